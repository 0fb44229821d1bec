/-
  Packed: XVpr, XAds, XAck, XHed, XAny, XFrA, XFrB, XFrC, XFrE, XFrG, XHdr, XChk.
-/
import Derived.Test.YtipdiddjhimdcaaGreatDoorS02
import Derived.Lib.QuietBelow
import Derived.BigQuiet
import Derived.Laws.RangeAny
import Derived.Laws.Runes
import Derived.Deep.LoopGhost
import Derived.Lib.IndexAny
import Derived.Lib.OthersKept
import Derived.Shelf.Strings.AsciiSet
import Derived.Lib.AsciiSet
import Derived.Laws.OwnMore
import Derived.Deep.AppendLies
namespace Go.Proofs.YtipdiddjhimdcaaGreatDoor
open Go.RowKit Go.Sort

theorem checkV_cases (N : ByteArray) (x : Int) (F : List Prm) :
    (hostS (us N) = false ∧ checkV ⟨us N, x, F⟩ = 32) ∨ (hostS (us N) = true ∧ x < 0 ∧ checkV ⟨us N, x, F⟩ = 33) ∨ (hostS (us N) = true ∧ ¬ x < 0 ∧ 65535 < x ∧ checkV ⟨us N, x, F⟩ = 33) ∨
    (hostS (us N) = true ∧ ¬ x < 0 ∧ ¬ 65535 < x ∧ ((textS F).2 != 0) = true ∧ checkV ⟨us N, x, F⟩ = (textS F).2) ∨ (hostS (us N) = true ∧ ¬ x < 0 ∧ ¬ 65535 < x ∧ ((textS F).2 != 0) = false ∧ (textS F).2 = 0 ∧ checkV ⟨us N, x, F⟩ = 0) := by
  unfold checkV
  dsimp only
  cases hh : hostS (us N)
  · exact .inl ⟨rfl, rfl⟩
  · rw [if_neg (by decide)]
    by_cases h0 : x < 0
    · exact .inr (.inl ⟨rfl, h0, if_pos (.inl h0)⟩)
    · by_cases h1 : 65535 < x
      · exact .inr (.inr (.inl ⟨rfl, h0, h1, if_pos (.inr h1)⟩))
      · rw [if_neg (by rintro (h | h); exact h0 h; exact h1 h)]
        cases ht : ((textS F).2 != 0)
        · have : (textS F).2 = 0 := by simpa using ht
          exact .inr (.inr (.inr (.inr ⟨rfl, h0, h1, rfl, this, this⟩)))
        · exact .inr (.inr (.inr (.inl ⟨rfl, h0, h1, rfl, rfl⟩)))
set_option maxHeartbeats 1600000 in
theorem checkV_c (N : ByteArray) (x : Int) (u : Value) (F : List Prm) (hN : N.size ≤ 4294967280) (w : World) (hm : Ml w) (hu : RPrms w u F) (hbd : ∀ p ∈ F, p.name.length ≤ 4294967280 ∧ p.value.length ≤ 4294967280) :
    Calls Tryz.prog 88 #[.agg #[.string N, .int .i64 x, u]] w fun e w' => e = .returned (.int .i64 (checkV ⟨us N, x, F⟩)) ∧ Below w.heap.size w w' := by
  have HM := Lib.hid hm
  clear hm
  have HU := Lib.hid hu
  obtain ⟨ao, cap, rfl, _, _⟩ := hu.form
  clear hu
  have HT := Lib.hid (fun wx hx hv => text_c (.slice ao F.length cap) F wx hx hv hbd)
  have HH := Lib.hid (fun wx hx => host_c N hN wx hx)
  have hcs := checkV_cases N x F
  obtain ⟨tx, htx⟩ : ∃ t, t = textS F := ⟨_, rfl⟩
  rw [← htx] at HT hcs
  clear htx hbd
  obtain ⟨ts, te⟩ := tx
  dsimp only at HT hcs
  obtain ⟨C, hC⟩ : ∃ C, C = checkV ⟨us N, x, F⟩ := ⟨_, rfl⟩
  rw [← hC] at hcs ⊢
  clear hC
  have hB0 : Below w.heap.size w (w.alloc (.cells #[.string N, .int .i64 x, .slice ao F.length cap] 87)) := ((Below.refl _ _).alloc (Nat.le_refl _) _)
  have bm := Blk.new w 87 #[.string N, .int .i64 x, .slice ao F.length cap]
  obtain ⟨w0, hw0⟩ : ∃ w0, w0 = w.alloc (.cells #[.string N, .int .i64 x, .slice ao F.length cap] 87) := ⟨_, rfl⟩
  rw [← hw0] at hB0 bm
  have HW0 := Lib.hid hw0
  clear hw0
  rcases hcs with ⟨h1, rfl⟩ | ⟨h1, h2, rfl⟩ | ⟨h1, h2, h3, rfl⟩ | ⟨h1, h2, h3, h4, rfl⟩ | ⟨h1, h2, h3, h4, _, rfl⟩
  all_goals
    rw [h1] at HH
    clear h1
    go_enter Tryz.func88, Tryz.ntmps88
    go_wp2_with (first | (go_at_call 82; (try rw [← HW0.out]); refine (HT.out _ (HM.out.below hB0) (HU.out.below hB0 (Nat.le_refl _))).mono ?_; rintro e w1 ⟨rfl, hC1⟩; have bm := bm.call hC1; obtain ⟨p0, p1, p2, _, _, _, _⟩ := bm.f3; have hZ := hB0.trans (hC1.mono hB0.size)) | (go_at_call 141; refine (HH.out _ (HM.out.below hZ)).mono ?_; rintro e w2 ⟨rfl, hC2⟩; have bm := bm.call hC2; obtain ⟨p0, p1, p2, _, _, _, _⟩ := bm.f3; have hZ2 := hZ.trans (hC2.mono hZ.size)))
    go_ret
    exact ⟨rfl, hZ2⟩

theorem ret_sp {s : ByteArray} {n : Int} {l : List UInt8} (h : us s = l) : Ending.returned (.tuple #[.string s, .int .i64 n]) = .returned (.tuple #[.string (bs l), .int .i64 n]) := by rw [← h, bs_us]

set_option maxHeartbeats 3200000 in
theorem printV_c (N : ByteArray) (x : Int) (u : Value) (F : List Prm) (hN : N.size ≤ 4294967280) (hx0 : -9223372036854775808 ≤ x) (hx1 : x ≤ 9223372036854775807) (w : World) (hm : Ml w) (hu : RPrms w u F) (hbd : ∀ p ∈ F, p.name.length ≤ 4294967280 ∧ p.value.length ≤ 4294967280) :
    Calls Tryz.prog 39 #[.agg #[.string N, .int .i64 x, u]] w fun e w' => e = .returned (.tuple #[.string (bs (printV ⟨us N, x, F⟩).1), .int .i64 (printV ⟨us N, x, F⟩).2]) ∧ Below w.heap.size w w' := by
  have HM := Lib.hid hm
  clear hm
  have HU := Lib.hid hu
  obtain ⟨ao, cap, rfl, _, _⟩ := hu.form
  clear hu
  have HC := Lib.hid (fun wx hx hv => checkV_c N x (.slice ao F.length cap) F hN wx hx hv hbd)
  have HT := Lib.hid (fun wx hx hv => text_c (.slice ao F.length cap) F wx hx hv hbd)
  have HD := Lib.hid (fun wx => digits_c x hx0 hx1 wx)
  have hpc : (checkV ⟨us N, x, F⟩ ≠ 0 ∧ printV ⟨us N, x, F⟩ = ([], checkV ⟨us N, x, F⟩)) ∨ (checkV ⟨us N, x, F⟩ = 0 ∧ N.size ≤ 64 ∧ printV ⟨us N, x, F⟩ = (textV ⟨us N, x, F⟩, 0) ∧ 0 ≤ x ∧ x ≤ 65535) := by
    unfold printV
    by_cases h : checkV ⟨us N, x, F⟩ = 0
    · obtain ⟨h1, h2, h3, _⟩ := check_parts _ h
      exact .inr ⟨h, by rw [← length_us]; exact (host_low _ h1).2.2, if_pos h, h2, h3⟩
    · exact .inl ⟨h, if_neg h⟩
  obtain ⟨PV, hPV⟩ : ∃ PV, PV = printV ⟨us N, x, F⟩ := ⟨_, rfl⟩
  rw [← hPV] at hpc ⊢
  clear hPV
  obtain ⟨C, hC⟩ : ∃ C, C = checkV ⟨us N, x, F⟩ := ⟨_, rfl⟩
  rw [← hC] at HC hpc
  clear hC
  have htl := textS_le F
  obtain ⟨TV, hTV⟩ : ∃ TV, TV = bs (textS F).1 := ⟨_, rfl⟩
  have uTV : (textS F).1 = us TV := by rw [hTV, us_bs]
  have sTV : TV.size ≤ 3200 := by rw [hTV, size_bs]; exact htl
  rw [← hTV] at HT
  obtain ⟨te, hte⟩ : ∃ te, te = (textS F).2 := ⟨_, rfl⟩
  rw [← hte] at HT
  clear hte hTV htl hbd
  have hB0 : Below w.heap.size w (w.alloc (.cells #[.string N, .int .i64 x, .slice ao F.length cap] 87)) := (Below.refl _ _).alloc (Nat.le_refl _) _
  have bm := Blk.new w 87 #[.string N, .int .i64 x, .slice ao F.length cap]
  obtain ⟨w0, hw0⟩ : ∃ w0, w0 = w.alloc (.cells #[.string N, .int .i64 x, .slice ao F.length cap] 87) := ⟨_, rfl⟩
  rw [← hw0] at hB0 bm
  have HW0 := Lib.hid hw0
  clear hw0
  rcases hpc with ⟨c0, rfl⟩ | ⟨c0, n64, rfl, x0, x1⟩
  · have t0 : (C != 0) = true := by simpa using c0
    clear c0
    go_enter Tryz.func39, Tryz.ntmps39
    go_wp2_with (first | (go_at_call 88; rw [← HW0.out]; refine (HC.out _ (HM.out.below hB0) (HU.out.below hB0 (Nat.le_refl _))).mono ?_; rintro e w1 ⟨rfl, hC1⟩; have bm := bm.call hC1; obtain ⟨p0, p1, p2, _, _, _, _⟩ := bm.f3; have hZ := hB0.trans (hC1.mono hB0.size)) | (go_at_call 88; refine (HC.out _ (HM.out.below hZ) (HU.out.below hZ (Nat.le_refl _))).mono ?_; rintro e w9 ⟨rfl, hC9⟩; have hZ := hZ.trans (hC9.mono hZ.size)) | (go_at_call 82; refine (HT.out _ (HM.out.below hZ) (HU.out.below hZ (Nat.le_refl _))).mono ?_; rintro e w2 ⟨rfl, hC2⟩; have bm := bm.call hC2; obtain ⟨p0, p1, p2, _, _, _, _⟩ := bm.f3; have hZ := hZ.trans (hC2.mono hZ.size)) | (go_at_call 83; refine (HD.out _).mono ?_; rintro e w3 ⟨rfl, hC3⟩; have bm := bm.call hC3; obtain ⟨p0, p1, p2, _, _, _, _⟩ := bm.f3; have hZ := hZ.trans (hC3.mono hZ.size)))
    go_ret2
    exact ⟨rfl, hZ⟩
  · subst c0
    by_cases hp : 0 < x
    · have ht : textV ⟨us N, x, F⟩ = nProto ++ 32 :: (us N ++ (58 :: digits x ++ us TV)) := by
        unfold textV portT; dsimp only; rw [if_pos hp, uTV]
      have hdl := portT_len x
      unfold portT at hdl
      rw [if_pos hp, List.length_cons] at hdl
      obtain ⟨D, hD⟩ : ∃ D, D = bs (digits x) := ⟨_, rfl⟩
      have uD : digits x = us D := by rw [hD, us_bs]
      have sD : D.size ≤ 21 := by rw [hD, size_bs]; omega
      rw [uD] at ht
      rw [← hD] at HD
      have HTX := Lib.hid ht
      have x2 : (x != 0) = true := by simp; omega
      clear ht hdl hD uD uTV
      go_enter Tryz.func39, Tryz.ntmps39
      go_wp2_with (first | (go_at_call 88; rw [← HW0.out]; refine (HC.out _ (HM.out.below hB0) (HU.out.below hB0 (Nat.le_refl _))).mono ?_; rintro e w1 ⟨rfl, hC1⟩; have bm := bm.call hC1; obtain ⟨p0, p1, p2, _, _, _, _⟩ := bm.f3; have hZ := hB0.trans (hC1.mono hB0.size)) | (go_at_call 88; refine (HC.out _ (HM.out.below hZ) (HU.out.below hZ (Nat.le_refl _))).mono ?_; rintro e w9 ⟨rfl, hC9⟩; have hZ := hZ.trans (hC9.mono hZ.size)) | (go_at_call 82; refine (HT.out _ (HM.out.below hZ) (HU.out.below hZ (Nat.le_refl _))).mono ?_; rintro e w2 ⟨rfl, hC2⟩; have bm := bm.call hC2; obtain ⟨p0, p1, p2, _, _, _, _⟩ := bm.f3; have hZ := hZ.trans (hC2.mono hZ.size)) | (go_at_call 83; refine (HD.out _).mono ?_; rintro e w3 ⟨rfl, hC3⟩; have bm := bm.call hC3; obtain ⟨p0, p1, p2, _, _, _, _⟩ := bm.f3; have hZ := hZ.trans (hC3.mono hZ.size)))
      go_ret2
      exact ⟨ret_sp (by rw [HTX.out]; simp [us, nProto]) , hZ⟩
    · have ht : textV ⟨us N, x, F⟩ = nProto ++ 32 :: (us N ++ us TV) := by
        unfold textV portT; dsimp only; rw [if_neg hp, uTV, List.nil_append]
      have HTX := Lib.hid ht
      have x2 : (x != 0) = false := by simp; omega
      clear ht uTV
      go_enter Tryz.func39, Tryz.ntmps39
      go_wp2_with (first | (go_at_call 88; rw [← HW0.out]; refine (HC.out _ (HM.out.below hB0) (HU.out.below hB0 (Nat.le_refl _))).mono ?_; rintro e w1 ⟨rfl, hC1⟩; have bm := bm.call hC1; obtain ⟨p0, p1, p2, _, _, _, _⟩ := bm.f3; have hZ := hB0.trans (hC1.mono hB0.size)) | (go_at_call 88; refine (HC.out _ (HM.out.below hZ) (HU.out.below hZ (Nat.le_refl _))).mono ?_; rintro e w9 ⟨rfl, hC9⟩; have hZ := hZ.trans (hC9.mono hZ.size)) | (go_at_call 82; refine (HT.out _ (HM.out.below hZ) (HU.out.below hZ (Nat.le_refl _))).mono ?_; rintro e w2 ⟨rfl, hC2⟩; have bm := bm.call hC2; obtain ⟨p0, p1, p2, _, _, _, _⟩ := bm.f3; have hZ := hZ.trans (hC2.mono hZ.size)) | (go_at_call 83; refine (HD.out _).mono ?_; rintro e w3 ⟨rfl, hC3⟩; have bm := bm.call hC3; obtain ⟨p0, p1, p2, _, _, _, _⟩ := bm.f3; have hZ := hZ.trans (hC3.mono hZ.size)))
      go_ret2
      exact ⟨ret_sp (by rw [HTX.out]; simp [us, nProto]), hZ⟩

end Go.Proofs.YtipdiddjhimdcaaGreatDoor

namespace Go.Proofs.YtipdiddjhimdcaaGreatDoor

def nameT (d : List UInt8) : List UInt8 := if d = [] then [] else (quote d).1 ++ [32]
def textA (a : Adr) : List UInt8 := nameT a.disp ++ 60 :: (textU a.uri ++ 62 :: (textS a.ps).1)
def printA (a : Adr) : List UInt8 × Int := if checkA a = 0 then (textA a, 0) else ([], checkA a)
end Go.Proofs.YtipdiddjhimdcaaGreatDoor

namespace Go.Proofs.YtipdiddjhimdcaaGreatDoor
set_option linter.unusedSimpArgs false
set_option linter.unusedVariables false
open Go.RowKit

set_option maxRecDepth 100000 in
set_option maxHeartbeats 6400000 in
theorem printA_c (D S U H : ByteArray) (n : Int) (u1 u2 u3 : Value) (F G P : List Prm) (hD : D.size ≤ 4294967280) (hS : S.size ≤ 4294967280) (hH : H.size ≤ 4294967280) (hn0 : -9223372036854775808 ≤ n) (hn1 : n ≤ 9223372036854775807) (w : World) (hm : Ml w) (h1 : RPrms w u1 F) (h2 : RPrms w u2 G) (h3 : RPrms w u3 P) (hb1 : ∀ p ∈ F, p.name.length ≤ 4294967280 ∧ p.value.length ≤ 4294967280) (hb2 : ∀ p ∈ G, p.name.length ≤ 4294967280 ∧ p.value.length ≤ 4294967280) (hb3 : ∀ p ∈ P, p.name.length ≤ 4294967280 ∧ p.value.length ≤ 4294967280) :
    Calls Tryz.prog 40 #[.agg #[.string D, .string S, .string U, .string H, .int .i64 n, u1, u2, u3]] w fun e w' => e = .returned (.tuple #[.string (bs (printA (⟨us D, ⟨us S, us U, us H, n, F, G⟩, P⟩ : Adr)).1), .int .i64 (printA (⟨us D, ⟨us S, us U, us H, n, F, G⟩, P⟩ : Adr)).2]) ∧ Below w.heap.size w w' := by
  have HM := Lib.hid hm
  have HU1 := Lib.hid h1
  have HU2 := Lib.hid h2
  have HU3 := Lib.hid h3
  obtain ⟨ao, ac, rfl, _, _⟩ := h1.form
  obtain ⟨bo, bc, rfl, _, _⟩ := h2.form
  obtain ⟨co, cc, rfl, _, _⟩ := h3.form
  have HQ := Lib.hid (fun wx => quote_c D (by omega) wx)
  have HC := Lib.hid (fun wx hx h1 h2 h3 => checkA_c D S U H n (.slice ao F.length ac) (.slice bo G.length bc) (.slice co P.length cc) F G P hD hS hH wx hx h1 h2 h3 hb1 hb2 hb3)
  have HU := Lib.hid (fun wx hx h1 h2 => printU_c S U H n (.slice ao F.length ac) (.slice bo G.length bc) F G hS hH hn0 hn1 wx hx h1 h2 hb1 hb2)
  have HT := Lib.hid (fun wx hx hv => text_c (.slice co P.length cc) P wx hx hv hb3)
  have hpr : printA (⟨us D, ⟨us S, us U, us H, n, F, G⟩, P⟩ : Adr) = if checkA (⟨us D, ⟨us S, us U, us H, n, F, G⟩, P⟩ : Adr) = 0 then (textA (⟨us D, ⟨us S, us U, us H, n, F, G⟩, P⟩ : Adr), 0) else ([], checkA (⟨us D, ⟨us S, us U, us H, n, F, G⟩, P⟩ : Adr)) := rfl
  have hpt := checkA_parts (⟨us D, ⟨us S, us U, us H, n, F, G⟩, P⟩ : Adr)
  have htx : textA (⟨us D, ⟨us S, us U, us H, n, F, G⟩, P⟩ : Adr) = nameT (us D) ++ 60 :: (textU ⟨us S, us U, us H, n, F, G⟩ ++ 62 :: (textS P).1) := rfl
  have hul := textU_le ⟨us S, us U, us H, n, F, G⟩
  have hpu : checkU ⟨us S, us U, us H, n, F, G⟩ = 0 → printU ⟨us S, us U, us H, n, F, G⟩ = (textU ⟨us S, us U, us H, n, F, G⟩, 0) := fun h => if_pos h
  have htl := textS_le P
  dsimp only at hpt
  obtain ⟨PA, hPA⟩ : ∃ C, C = printA (⟨us D, ⟨us S, us U, us H, n, F, G⟩, P⟩ : Adr) := ⟨_, rfl⟩
  rw [← hPA] at hpr ⊢
  obtain ⟨C, hC⟩ : ∃ C, C = checkA (⟨us D, ⟨us S, us U, us H, n, F, G⟩, P⟩ : Adr) := ⟨_, rfl⟩
  rw [← hC] at HC hpr hpt
  obtain ⟨TA, hTA⟩ : ∃ C, C = textA (⟨us D, ⟨us S, us U, us H, n, F, G⟩, P⟩ : Adr) := ⟨_, rfl⟩
  rw [← hTA] at hpr htx
  clear hPA hC hTA h1 h2 h3 hb1 hb2 hb3 hm
  have hB0 : Below w.heap.size w (w.alloc (.cells #[.string D, .string S, .string U, .string H, .int .i64 n, .slice ao F.length ac, .slice bo G.length bc, .slice co P.length cc] 26)) := (Below.refl _ _).alloc (Nat.le_refl _) _
  have bm0 := Blk.new w 26 #[.string D, .string S, .string U, .string H, .int .i64 n, .slice ao F.length ac, .slice bo G.length bc, .slice co P.length cc]
  obtain ⟨w0, hw0⟩ : ∃ w0, w0 = w.alloc (.cells #[.string D, .string S, .string U, .string H, .int .i64 n, .slice ao F.length ac, .slice bo G.length bc, .slice co P.length cc] 26) := ⟨_, rfl⟩
  rw [← hw0] at hB0 bm0
  have HX := Lib.hid (fun (wx : World) (h : Below w0.heap.size w0 wx) => (show Blk wx w.heap.size 26 #[.string D, .string S, .string U, .string H, .int .i64 n, .slice ao F.length ac, .slice bo G.length bc, .slice co P.length cc] ∧ Below w.heap.size w wx ∧ Ml wx ∧ RPrms wx (.slice ao F.length ac) F ∧ RPrms wx (.slice bo G.length bc) G ∧ RPrms wx (.slice co P.length cc) P from by
    have hx := hB0.trans (h.mono hB0.size)
    exact ⟨bm0.call h, hx, HM.out.below hx, HU1.out.below hx (Nat.le_refl _), HU2.out.below hx (Nat.le_refl _), HU3.out.below hx (Nat.le_refl _)⟩))
  have HW0 := Lib.hid hw0
  have hZ : Below w0.heap.size w0 w0 := Below.refl _ _
  obtain ⟨bm, hBB, hMM, hU1, hU2, hU3⟩ := HX.out _ hZ
  obtain ⟨p0, p1, p2, p3, p4, p5, p6, p7⟩ := blk_f8 bm
  clear hw0 bm0 hB0
  by_cases hc : C = 0
  case neg =>
    rw [if_neg hc] at hpr
    have t0 : (C != 0) = true := by simpa using hc
    have HPR := Lib.hid hpr
    clear hpr hpt htx hul hpu htl hc
    go_enter Tryz.func40, Tryz.ntmps40
    go_wp2_with (first | (go_at_call 36; (try rw [← HW0.out]); refine (HC.out _ hMM hU1 hU2 hU3).mono ?_; rintro e w1 ⟨rfl, hC1⟩; have hZ := hZ.trans (hC1.mono hZ.size); obtain ⟨bm, hBB, hMM, hU1, hU2, hU3⟩ := HX.out _ hZ; obtain ⟨p0, p1, p2, p3, p4, p5, p6, p7⟩ := blk_f8 bm) | (go_at_call 38; refine (HU.out _ hMM hU1 hU2).mono ?_; rintro e w2 ⟨rfl, hC2⟩; have hZ := hZ.trans (hC2.mono hZ.size); obtain ⟨bm, hBB, hMM, hU1, hU2, hU3⟩ := HX.out _ hZ; obtain ⟨p0, p1, p2, p3, p4, p5, p6, p7⟩ := blk_f8 bm) | (go_at_call 82; refine (HT.out _ hMM hU3).mono ?_; rintro e w3 ⟨rfl, hC3⟩; have hZ := hZ.trans (hC3.mono hZ.size); obtain ⟨bm, hBB, hMM, hU1, hU2, hU3⟩ := HX.out _ hZ; obtain ⟨p0, p1, p2, p3, p4, p5, p6, p7⟩ := blk_f8 bm) | (go_at_call 80; refine (HQ.out _).mono ?_; rintro e w4 ⟨rfl, hC4⟩; have hZ := hZ.trans (hC4.mono hZ.size); obtain ⟨bm, hBB, hMM, hU1, hU2, hU3⟩ := HX.out _ hZ; obtain ⟨p0, p1, p2, p3, p4, p5, p6, p7⟩ := blk_f8 bm))
    go_ret2
    exact ⟨ret_si (p := PA) (by rw [HPR.out]; rfl), hBB⟩
  obtain ⟨q0, d64, cu0, t0⟩ := hpt hc
  subst hc
  rw [if_pos rfl] at hpr
  have hul := hul cu0
  have hpu := hpu cu0
  have hqn := quote_le (us D)
  have hnm : nameT (us D) = if us D = [] then [] else (quote (us D)).1 ++ [32] := rfl
  rw [hpu] at HU
  rw [hnm] at htx
  have hdn : us D = [] ↔ D.size = 0 := by rw [← length_us, List.length_eq_zero_iff]
  rw [length_us] at d64 hqn
  obtain ⟨TU, hTU⟩ : ∃ x, x = bs (textU ⟨us S, us U, us H, n, F, G⟩) := ⟨_, rfl⟩
  have uTU : textU ⟨us S, us U, us H, n, F, G⟩ = us TU := by rw [hTU, us_bs]
  obtain ⟨TP, hTP⟩ : ∃ x, x = bs (textS P).1 := ⟨_, rfl⟩
  have uTP : (textS P).1 = us TP := by rw [hTP, us_bs]
  obtain ⟨QD, hQD⟩ : ∃ x, x = bs (quote (us D)).1 := ⟨_, rfl⟩
  have uQD : (quote (us D)).1 = us QD := by rw [hQD, us_bs]
  rw [← hTU] at HU
  rw [← hTP, t0] at HT
  rw [← hQD, q0] at HQ
  rw [uTU, length_us] at hul
  rw [uTP, length_us] at htl
  rw [uQD, length_us] at hqn
  rw [uTU, uTP, uQD] at htx
  have HPR := Lib.hid hpr
  clear hpr hpu hTU uTU hTP uTP hQD uQD hnm cu0 q0 t0
  by_cases hd : D.size = 0
  · rw [if_pos (hdn.2 hd), List.nil_append] at htx
    have HTX := Lib.hid htx
    obtain rfl := eq_empty hd
    clear htx hd hdn
    go_enter Tryz.func40, Tryz.ntmps40
    go_wp2_with (first | (go_at_call 36; (try rw [← HW0.out]); refine (HC.out _ hMM hU1 hU2 hU3).mono ?_; rintro e w1 ⟨rfl, hC1⟩; have hZ := hZ.trans (hC1.mono hZ.size); obtain ⟨bm, hBB, hMM, hU1, hU2, hU3⟩ := HX.out _ hZ; obtain ⟨p0, p1, p2, p3, p4, p5, p6, p7⟩ := blk_f8 bm) | (go_at_call 38; refine (HU.out _ hMM hU1 hU2).mono ?_; rintro e w2 ⟨rfl, hC2⟩; have hZ := hZ.trans (hC2.mono hZ.size); obtain ⟨bm, hBB, hMM, hU1, hU2, hU3⟩ := HX.out _ hZ; obtain ⟨p0, p1, p2, p3, p4, p5, p6, p7⟩ := blk_f8 bm) | (go_at_call 82; refine (HT.out _ hMM hU3).mono ?_; rintro e w3 ⟨rfl, hC3⟩; have hZ := hZ.trans (hC3.mono hZ.size); obtain ⟨bm, hBB, hMM, hU1, hU2, hU3⟩ := HX.out _ hZ; obtain ⟨p0, p1, p2, p3, p4, p5, p6, p7⟩ := blk_f8 bm) | (go_at_call 80; refine (HQ.out _).mono ?_; rintro e w4 ⟨rfl, hC4⟩; have hZ := hZ.trans (hC4.mono hZ.size); obtain ⟨bm, hBB, hMM, hU1, hU2, hU3⟩ := HX.out _ hZ; obtain ⟨p0, p1, p2, p3, p4, p5, p6, p7⟩ := blk_f8 bm))
    go_ret2
    exact ⟨ret_si (p := PA) (by rw [HPR.out, HTX.out]; simp [us]), hBB⟩
  · rw [if_neg (fun h => hd (hdn.1 h))] at htx
    have HTX := Lib.hid htx
    have pE := ne_empty hd
    have pF := isEmpty_f hd
    clear htx hd hdn
    go_enter Tryz.func40, Tryz.ntmps40
    go_wp2_with (first | (go_at_call 36; (try rw [← HW0.out]); refine (HC.out _ hMM hU1 hU2 hU3).mono ?_; rintro e w1 ⟨rfl, hC1⟩; have hZ := hZ.trans (hC1.mono hZ.size); obtain ⟨bm, hBB, hMM, hU1, hU2, hU3⟩ := HX.out _ hZ; obtain ⟨p0, p1, p2, p3, p4, p5, p6, p7⟩ := blk_f8 bm) | (go_at_call 38; refine (HU.out _ hMM hU1 hU2).mono ?_; rintro e w2 ⟨rfl, hC2⟩; have hZ := hZ.trans (hC2.mono hZ.size); obtain ⟨bm, hBB, hMM, hU1, hU2, hU3⟩ := HX.out _ hZ; obtain ⟨p0, p1, p2, p3, p4, p5, p6, p7⟩ := blk_f8 bm) | (go_at_call 82; refine (HT.out _ hMM hU3).mono ?_; rintro e w3 ⟨rfl, hC3⟩; have hZ := hZ.trans (hC3.mono hZ.size); obtain ⟨bm, hBB, hMM, hU1, hU2, hU3⟩ := HX.out _ hZ; obtain ⟨p0, p1, p2, p3, p4, p5, p6, p7⟩ := blk_f8 bm) | (go_at_call 80; refine (HQ.out _).mono ?_; rintro e w4 ⟨rfl, hC4⟩; have hZ := hZ.trans (hC4.mono hZ.size); obtain ⟨bm, hBB, hMM, hU1, hU2, hU3⟩ := HX.out _ hZ; obtain ⟨p0, p1, p2, p3, p4, p5, p6, p7⟩ := blk_f8 bm))
    go_ret2
    exact ⟨ret_si (p := PA) (by rw [HPR.out, HTX.out]; simp [us]), hBB⟩

end Go.Proofs.YtipdiddjhimdcaaGreatDoor

namespace Go.Proofs.YtipdiddjhimdcaaGreatDoor

section
open Go.RowKit

/-- a sequence number with a method -/
def cseqS (n : Int) (l : List UInt8) : List UInt8 × Int := if n < 0 ∨ 2147483647 < n ∨ token l = false then ([], 80) else (digits n ++ 32 :: l, 0)
end

section
open Go.RowKit

end

section
open Go.RowKit

theorem cseqS_no (n : Int) (l : List UInt8) (h : n < 0 ∨ 2147483647 < n ∨ token l = false) : cseqS n l = ([], 80) := by
  unfold cseqS; rw [if_pos h]
theorem cseqS_yes (n : Int) (l : List UInt8) (h1 : ¬ n < 0) (h2 : ¬ 2147483647 < n) (h3 : token l = true) : cseqS n l = (digits n ++ 32 :: l, 0) := by
  unfold cseqS; rw [if_neg]; rintro (h | h | h)
  · exact h1 h
  · exact h2 h
  · rw [h3] at h; cases h
theorem ret_spH {s : ByteArray} {n : Int} {p : List UInt8 × Int} (h : p = (us s, n)) : Ending.returned (.tuple #[.string s, .int .i64 n]) = .returned (.tuple #[.string (bs p.1), .int .i64 p.2]) := by
  rw [h]; simp

set_option maxHeartbeats 1600000 in
theorem cseq_c (n : Int) (n0 : -9223372036854775808 ≤ n) (n1 : n ≤ 9223372036854775807) (s : ByteArray) (hs : s.size ≤ 140737488351232) (w : World) :
    Calls Tryz.prog 37 #[.int .i64 n, .string s] w fun e w' => e = .returned (.tuple #[.string (bs (cseqS n (us s)).1), .int .i64 (cseqS n (us s)).2]) ∧ Below w.heap.size w w' := by
  have H1 := Lib.hid (fun wx => token_c s (by omega) wx)
  have H2 := Lib.hid (fun wx => digits_c n n0 n1 wx)
  have ld : (bs (digits n)).size ≤ 20 := by rw [size_bs]; exact digits_len n
  have HN := Lib.hid (cseqS_no n (us s))
  have HY := Lib.hid (cseqS_yes n (us s))
  have HL := Lib.hid (us_bs (digits n))
  obtain ⟨d, hd⟩ : ∃ d, d = bs (digits n) := ⟨_, rfl⟩
  rw [← hd] at H2 ld HL
  clear hd
  have hB : Below w.heap.size w w := Below.refl _ w
  have hcase : n < 0 ∨ (¬ n < 0 ∧ 2147483647 < n) ∨ (¬ n < 0 ∧ ¬ 2147483647 < n) := by omega
  have h20 : (⟨#[32]⟩ : ByteArray).size = 1 := rfl
  rcases hcase with h1 | ⟨h1, h2⟩ | ⟨h1, h2⟩
  · have HX := Lib.hid (HN.out (.inl h1))
    go_enter Tryz.func37, Tryz.ntmps37
    go_wp2_with fail
    go_ret2
    exact ⟨ret_spH (by rw [HX.out]; rfl), hB⟩
  · have HX := Lib.hid (HN.out (.inr (.inl h2)))
    go_enter Tryz.func37, Tryz.ntmps37
    go_wp2_with fail
    go_ret2
    exact ⟨ret_spH (by rw [HX.out]; rfl), hB⟩
  · cases ht : token (us s)
    · have HX := Lib.hid (HN.out (.inr (.inr ht)))
      rw [ht] at H1; clear ht
      go_enter Tryz.func37, Tryz.ntmps37
      go_wp2_with (go_at_call 31; refine (H1.out _).mono ?_; rintro e wx ⟨rfl, rfl⟩)
      go_ret2
      exact ⟨ret_spH (by rw [HX.out]; rfl), hB⟩
    · have HX := Lib.hid (HY.out h1 h2 ht)
      rw [ht] at H1; clear ht
      go_enter Tryz.func37, Tryz.ntmps37
      go_wp2_with (first | (go_at_call 31; refine (H1.out _).mono ?_; rintro e wx ⟨rfl, rfl⟩) | (go_at_call 83; refine (H2.out _).mono ?_; rintro e wx ⟨rfl, hC⟩; replace hB := hB.trans (hC.mono hB.size)))
      go_ret2
      exact ⟨ret_spH (by rw [HX.out, us_append, us_append, HL.out]; simp [us]), hB⟩

end

end Go.Proofs.YtipdiddjhimdcaaGreatDoor

namespace Go.Proofs.YtipdiddjhimdcaaGreatDoor
open Go.RowKit

set_option maxRecDepth 100000 in
set_option maxHeartbeats 6400000 in
/-- no rune above 127 is a blank -/
theorem indexRune_high (T : ByteArray) (hT : T = ⟨#[32, 9]⟩) (r : Int) (h0 : 128 ≤ r) (h1 : r ≤ 2147483647) (w : World) :
    Calls Tryz.prog 155 #[.string T, .int .i32 r] w fun e w' => e = .returned (.int .i64 (-1)) ∧ Below w.heap.size w w' := by
  have hz : ¬ (r < 128) := by omega
  have h00 : (0 : Int) ≤ r := by omega
  by_cases hR : r = 65533
  · subst hR
    subst hT
    have n0 := fun ty => run_next_ascii (P := Tryz.prog) w ⟨#[32, 9]⟩ 0 ty (by decide) (by decide)
    have n1 := fun ty => run_next_ascii (P := Tryz.prog) w ⟨#[32, 9]⟩ 1 ty (by decide) (by decide)
    have n2 := run_next_end (P := Tryz.prog) w ⟨#[32, 9]⟩ 2
    go_enter Tryz.func155, Tryz.ntmps155
    go_wp2
    go_loopg [5, 6] 2 (fun g _ _ wx => ∃ i : Nat, i + g = 2 ∧ wx = w.iter ⟨#[32, 9]⟩ i)
    case atStart => exact ⟨0, rfl, rfl⟩
    case round =>
      obtain ⟨i, hig, rfl⟩ := hrel
      have hi : i = 0 ∨ i = 1 ∨ i = 2 := by omega
      rcases hi with rfl | rfl | rfl
      · obtain rfl : gk = 2 := by omega
        go_wp2
        go_roundg 1
        case measure => omega
        case rel => exact ⟨1, rfl, rfl⟩
      · obtain rfl : gk = 1 := by omega
        go_wp2
        go_roundg 0
        case measure => omega
        case rel => exact ⟨2, rfl, rfl⟩
      · go_wp2
        go_ret
        exact ⟨rfl, (Below.refl _ _).alloc (Nat.le_refl _) _⟩
  · have hRb : (r == 65533) = false := by simpa using hR
    have HVR := Lib.hid (fun wx => validRune_c r wx)
    cases hv : Utf8.valid r
    · rw [hv] at HVR
      clear hv
      go_enter Tryz.func155, Tryz.ntmps155
      go_wp2_with (go_at_call 189; refine (HVR.out _).mono ?_; rintro e wx ⟨rfl, rfl⟩)
      go_ret
      exact ⟨rfl, Below.refl _ _⟩
    · obtain ⟨e1, e2, e3⟩ := encode_facts r hv h0
      rw [hv] at HVR
      clear hv
      obtain ⟨S, hS⟩ : ∃ S, Utf8.encode r = S := ⟨_, rfl⟩
      rw [hS] at e1 e2 e3
      by_cases h2 : S.size = 2
      · have p1 : 1 < S.size := by omega
        have zS : (S.size : Int) = 2 := by omega
        have hb : 128 ≤ (S[1]'p1).toNat := by
          have := e3 (by omega)
          simpa [h2] using this
        have z1 : 1 < T.size := by rw [hT]; decide
        have q1 : ((((T[1]'z1).toNat : Int)) == ((S[1]'p1).toNat : Int)) = false := by subst hT; show ((9 : Int) == _) = false; simp; omega
        have HI := Lib.hid (fun wx => show Calls Tryz.prog 58 #[.string (T.extract 2 T.size), .int .u8 ((S[1]'p1).toNat : Int)] wx fun e w' => e = .returned (.int .i64 (-1)) ∧ wx = w' from
          (Tryz.strings_IndexByte _ ((S[1]'p1).toNat : Int) wx).mono fun e w' ⟨a, b⟩ => ⟨a.trans (by rw [hT]; rfl), b.symm⟩)
        have z2 : (T.size : Int) = 2 := by rw [hT]; rfl
        have w2 : IntKind.i64.wrap 2 = 2 := by decide
        have q3 : ((((T[1]'z1).toNat : Int)) != ((S[1]'p1).toNat : Int)) = true := by simpa using q1
        clear hT e1 e2 e3 h2 hb
        go_enter Tryz.func155, Tryz.ntmps155
        go_wp2_with (go_at_call 189; refine (HVR.out _).mono ?_; rintro e wx ⟨rfl, rfl⟩)
        go_wp2
        go_step3
        go_wp2
        go_loopg [9] 0 (fun _ x wr => x = .int .i64 1 ∧ wr = w)
        case atStart => exact ⟨rfl, rfl⟩
        case round =>
          obtain ⟨rfl, rfl⟩ := hrel
          go_wp2
          go_step3
          go_wp2
          go_quiet (fail)
          go_wp2
          go_quiet ((go_at_call 58; exact quiet_same2 (HI.out _)))
          go_wp2
          rw [Exit.noGoto_ret]
          simp only [Exit.inBlock, Exit.then, Exit.noGoto_ret]
          go_ret
          exact ⟨rfl, Drn.below ⟨_, rfl⟩⟩
      · have h3 : ¬ ((S.size : Int) - 1 < 2) := by omega
        have w1 : IntKind.i64.wrap ((S.size : Int) - 1) = (S.size : Int) - 1 := IntWalk.i64_in _ (by omega)
        clear e1 e2 e3 h2
        have z2 : (T.size : Int) = 2 := by rw [hT]; rfl
        clear hT
        go_enter Tryz.func155, Tryz.ntmps155
        go_wp2_with (go_at_call 189; refine (HVR.out _).mono ?_; rintro e wx ⟨rfl, rfl⟩)
        go_wp2
        go_step3
        go_wp2
        go_loopg [9] 0 (fun _ x wr => x = .int .i64 ((S.size : Int) - 1) ∧ wr = w)
        case atStart => exact ⟨rfl, rfl⟩
        case round =>
          obtain ⟨rfl, rfl⟩ := hrel
          go_wp2
          rw [Exit.noGoto_ret]
          go_ret
          exact ⟨rfl, Below.refl _ _⟩

theorem blank_idx (c : UInt8) : decide ((0 : Int) ≤ Lib.indexByte [32, 9] c) = blank c :=
  all_bytes (fun c => decide ((0 : Int) ≤ Lib.indexByte [32, 9] c) = blank c) (by decide +kernel) c
theorem blank_high (c : UInt8) (h : 128 ≤ c.toNat) : blank c = false := by
  have := all_bytes (fun c => 128 ≤ c.toNat → blank c = false) (by decide +kernel) c
  exact this h
theorem any_more (s : ByteArray) (i : Nat) (hi : i < s.size) (hp : ((us s).take i).any blank = false) (hb : blank s[i] = false) : ((us s).take (i + 1)).any blank = false := by
  rw [take_us s i hi, List.any_append, hp]; simp [hb]
theorem any_hit (s : ByteArray) (i : Nat) (hi : i < s.size) (hb : blank s[i] = true) : (us s).any blank = true :=
  List.any_eq_true.2 ⟨_, by have := get_us s i hi; exact List.mem_of_getElem? this, hb⟩
theorem any_high (s : ByteArray) (i : Nat) (hi : i < s.size) (ha : 128 ≤ (s[i]'hi).toNat) (hp : ((us s).take i).any blank = false) : ∀ n, n ≤ (Utf8.decode s i).2 → ((us s).take (i + n)).any blank = false
  | 0, _ => hp
  | n + 1, hn => by
    have ih := any_high s i hi ha hp n (by omega)
    by_cases hj : i + n < s.size
    · exact any_more s (i + n) hj ih (blank_high _ (decode_cont s i hi ha n (by omega) hj))
    · rw [take_all s _ (by omega)] at ih
      rw [take_all s _ (by omega)]; exact ih

set_option maxRecDepth 100000 in
set_option maxHeartbeats 6400000 in
theorem indexAny_short (T : ByteArray) (hT : T = ⟨#[32, 9]⟩) (s : ByteArray) (h8 : s.size ≤ 8) (w : World) :
    Calls Tryz.prog 102 #[.string s, .string T] w fun e w' => ∃ i, e = .returned (.int .i64 i) ∧ decide (0 ≤ i) = (us s).any blank ∧ Below w.heap.size w w' := by
  have HT := Lib.hid hT
  have hemp : T.toList.isEmpty = false := by rw [hT, isEmpty_us]; rfl
  have hn1 : ((T.size : Int) == 1) = false := by rw [hT]; rfl
  have h8z : decide ((8 : Int) < (s.size : Int)) = false := decide_eq_false (by omega)
  have HA := Lib.hid (fun (x : UInt8) (hx : x.toNat < 128) wx => show Calls Tryz.prog 155 #[.string T, .int .i32 x.toNat] wx fun e w' => e = .returned (.int .i64 (Lib.indexByte [32, 9] x)) ∧ wx = w' from
    (Tryz.strings_IndexRune_ascii T x.toNat wx (by omega) (by omega)).mono fun e w' ⟨a, b⟩ => ⟨a.trans (by rw [hT]; simp), b.symm⟩)
  have HH := Lib.hid (fun r h0 h1 wx => indexRune_high T hT r h0 h1 wx)
  clear hT
  go_enter Tryz.func102, Tryz.ntmps102
  go_wp2_with (go_at_call 156; refine (Tryz.strings_shouldUseASCIISet _ _).mono ?_; rintro e w' ⟨rfl, hw⟩; rw [hw, h8z])
  go_loopg [9, 10] s.size (fun g _ _ wx => ∃ i : Nat, s.size ≤ i + g ∧ wx.heap[w.heap.size]? = some (.stringIter s i) ∧ Below w.heap.size w wx ∧ ((us s).take i).any blank = false)
  case atStart => exact ⟨0, by omega, World.iter_heap _ _ _, (Below.refl _ _).alloc (Nat.le_refl _) _, rfl⟩
  case round =>
    obtain ⟨i, hig, hit, hB, hno⟩ := hrel
    have HN := Lib.hid hno
    have HIT := Lib.hid hit
    have HB := Lib.hid hB
    clear hno hB
    by_cases hi : i < s.size
    · cases gk with
      | zero => omega
      | succ g =>
        obtain ⟨x, hx⟩ : ∃ x : UInt8, s[i]'hi = x := ⟨_, rfl⟩
        by_cases hx128 : x.toNat < 128
        · have hnx := fun ty => Lib.run_next_ascii_at (P := Tryz.prog) wr w.heap.size s i ty hit hi (by rw [hx]; exact hx128)
          rw [hx] at hnx
          have HA' := Lib.hid (HA.out x hx128)
          have hbi := blank_idx x
          cases hin : blank x
          · have HB2 := Lib.hid (any_more s i hi HN.out (by rw [hx]; exact hin))
            rw [hin] at hbi
            have hlt : ¬ ((0 : Int) ≤ Lib.indexByte [32, 9] x) := of_decide_eq_false hbi
            obtain ⟨z, hz⟩ : ∃ z, z = Lib.indexByte [32, 9] x := ⟨_, rfl⟩
            rw [← hz] at HA' hlt
            clear hbi hin hx hit hz
            go_wp2_with (go_at_call 155; refine (HA'.out _).mono ?_; rintro e w' ⟨rfl, rfl⟩)
            go_roundg g
            case measure => omega
            case rel => exact ⟨i + 1, by omega, Lib.iterAt_heap _ _ _ _ _ HIT.out, Lib.below_iterAt HB.out (Nat.le_refl _) _ _, HB2.out⟩
          · have HB2 := Lib.hid (any_hit s i hi (by rw [hx]; exact hin))
            rw [hin] at hbi
            have hge : ((0 : Int) ≤ Lib.indexByte [32, 9] x) := of_decide_eq_true hbi
            obtain ⟨z, hz⟩ : ∃ z, z = Lib.indexByte [32, 9] x := ⟨_, rfl⟩
            rw [← hz] at HA' hge
            clear hbi hin hx hit hz
            go_wp2_with (go_at_call 155; refine (HA'.out _).mono ?_; rintro e w' ⟨rfl, rfl⟩)
            go_ret
            exact ⟨_, rfl, by rw [HB2.out]; exact decide_eq_true (by omega), Lib.below_iterAt HB.out (Nat.le_refl _) _ _⟩
        · have hnx := fun ty => Lib.run_next_any_at (P := Tryz.prog) wr w.heap.size s i ty hit hi
          have hr := decode_high s i hi (by rw [hx]; omega)
          have hr2 := decode_le s i
          have HB2 := Lib.hid (any_high s i hi (by rw [hx]; omega) HN.out _ (Nat.le_refl _))
          obtain ⟨d, hd⟩ : ∃ d, d = Utf8.decode s i := ⟨_, rfl⟩
          rw [← hd] at hnx hr hr2 HB2
          obtain ⟨r, wd⟩ := d
          dsimp only at hnx hr hr2 HB2
          have HA' := Lib.hid (HH.out (r : Int) (by omega) (by omega))
          have hm1 : ¬ ((0 : Int) ≤ -1) := by decide
          have hw1 : 1 ≤ wd := hr.2
          clear hd hx hit hx128 hr hr2
          go_wp2_with (go_at_call 155; refine (HA'.out _).mono ?_; rintro e w' ⟨rfl, hC⟩)
          go_roundg g
          case measure => omega
          case rel =>
            refine ⟨i + wd, by omega, ?_, ?_, HB2.out⟩
            · rw [hC.block _ (by rw [Lib.iterAt_size]; exact (Array.getElem?_eq_some_iff.1 HIT.out).1)]
              exact Lib.iterAt_heap _ _ _ _ _ HIT.out
            · have h1 := Lib.below_iterAt HB.out (Nat.le_refl _) s (i + wd)
              exact h1.trans (hC.mono h1.size)
    · have hnx := fun ty => Lib.run_next_end_at (P := Tryz.prog) wr w.heap.size s i ty hit hi
      have HB2 := Lib.hid (show (us s).any blank = false by rw [← take_all s i (by omega)]; exact HN.out)
      clear hit
      go_wp2
      go_ret
      exact ⟨_, rfl, by rw [HB2.out]; rfl, HB.out⟩

theorem indexAny_any (l : List UInt8) : decide ((0 : Int) ≤ Lib.indexAny l [32, 9]) = l.any blank := by
  induction l with
  | nil => rfl
  | cons c r ih =>
    have hb := all_bytes (fun c => ([32, 9] : List UInt8).contains c = blank c) (by decide +kernel) c
    have hg := Lib.indexAny_ge [32, 9] r
    rw [Lib.indexAny, hb, List.any_cons, ← ih]
    cases blank c
    · simp only [Bool.false_or, Bool.false_eq_true, if_false]
      by_cases h : Lib.indexAny r [32, 9] = -1
      · rw [h]; rfl
      · rw [if_neg (by simpa using h)]
        rw [decide_eq_decide]; omega
    · rfl

theorem indexAny_c (T : ByteArray) (hT : T = ⟨#[32, 9]⟩) (s : ByteArray) (hs : s.size < 4294967281) (w : World) :
    Calls Tryz.prog 102 #[.string s, .string T] w fun e w' => ∃ i, e = .returned (.int .i64 i) ∧ decide (0 ≤ i) = (us s).any blank ∧ Below w.heap.size w w' := by
  by_cases h8 : s.size ≤ 8
  · exact indexAny_short T hT s h8 w
  · subst hT
    refine (Tryz.strings_IndexAny_long (zero_of_info (show (Tryz.prog.info? 157).map (fun i => (i.zero, i.size)) = some (some (.agg (Array.replicate 256 (.bool false))), 256) by kernel_rfl)).1 s ⟨#[32, 9]⟩ w (by decide) (by omega) hs (by decide) ?_).mono ?_
    · intro j b hj
      have : b ∈ ([32, 9] : List UInt8) := List.mem_of_getElem? hj
      simp only [List.mem_cons, List.not_mem_nil, or_false] at this
      rcases this with rfl | rfl <;> decide
    · rintro e w' ⟨rfl, rfl⟩
      exact ⟨_, rfl, indexAny_any _, ((Below.refl _ _).alloc (Nat.le_refl _) _).alloc (by simp) _⟩

theorem containsAny_c (s : ByteArray) (hs : s.size < 4294967281) (w : World) :
    Calls Tryz.prog 57 #[.string s, .string ⟨#[32, 9]⟩] w fun e w' => e = .returned (.bool ((us s).any blank)) ∧ Below w.heap.size w w' := by
  have H := Lib.hid (indexAny_c _ rfl s hs w)
  go_enter Tryz.func57, Tryz.ntmps57
  go_wp2_with (go_at_call 102; refine H.out.mono ?_; rintro e wx ⟨i, rfl, hi, hB⟩; have HI := Lib.hid hi; clear hi)
  go_ret
  exact ⟨ret_bool HI.out, hB⟩

end Go.Proofs.YtipdiddjhimdcaaGreatDoor

namespace Go.Proofs.YtipdiddjhimdcaaGreatDoor
open Go.RowKit

theorem all_bad (P : UInt8 → Bool) (s : ByteArray) (k : Nat) (h : k < s.size) (hs : P s[k] = false) : (us s).all P = false := by
  rw [← Bool.not_eq_true, List.all_eq_true]
  intro hall
  have := hall s[k] (by have := get_us s k h; exact List.mem_of_getElem? this)
  rw [hs] at this; cases this
theorem all_more (P : UInt8 → Bool) (s : ByteArray) (k : Nat) (h : k < s.size) (hs : P s[k] = true) (hp : ((us s).take k).all P = true) : ((us s).take (k + 1)).all P = true := by
  rw [take_us s k h, List.all_append, hp]; simp [hs]
theorem all_whole (P : UInt8 → Bool) (s : ByteArray) (k : Nat) (h : s.size ≤ k) (hp : ((us s).take k).all P = true) : (us s).all P = true := by
  rw [← take_all s k h]; exact hp
theorem vis_no (c : UInt8) (h : ¬ ((c.toNat : Int) = 9) ∧ ((c.toNat : Int) < 32 ∨ (c.toNat : Int) = 127)) : vis c = false := by
  unfold vis
  simp only [Bool.or_eq_false_iff, Bool.and_eq_false_iff, beq_eq_false_iff_ne, decide_eq_false_iff_not, Bool.not_eq_false', beq_iff_eq]
  omega
theorem vis_yes (c : UInt8) (h : ((c.toNat : Int) = 9) ∨ (¬ (c.toNat : Int) < 32 ∧ ¬ (c.toNat : Int) = 127)) : vis c = true := by
  unfold vis
  simp only [Bool.or_eq_true, Bool.and_eq_true, beq_iff_eq, decide_eq_true_eq, Bool.not_eq_true', beq_eq_false_iff_ne]
  omega

set_option maxHeartbeats 800000 in
theorem visible_c (s : ByteArray) (hs : s.size ≤ 9223372036854775807) (w : World) :
    Calls Tryz.prog 51 #[.string s] w fun e w' => e = .returned (.bool (visS (us s))) ∧ w = w' := by
  go_enter Tryz.func51, Tryz.ntmps51
  go_wp2
  go_loop [6] (fun i => ∃ k : Nat, k ≤ s.size ∧ i = .int .i64 k ∧ ((us s).take k).all vis = true) (fun i => s.size - (intOf i).toNat)
  case atStart => exact ⟨0, Nat.zero_le _, rfl, rfl⟩
  case round =>
    obtain ⟨k, hk, rfl, hb⟩ := hrel
    have HB := Lib.hid hb; clear hb
    by_cases hlt : k < s.size
    · have hf := Lib.hid (fun h => all_bad vis s k hlt h)
      have ht := Lib.hid (fun h => all_more vis s k hlt h HB.out)
      have n1 := Lib.hid (vis_no s[k])
      have n2 := Lib.hid (vis_yes s[k])
      by_cases c0 : ((s[k].toNat : Int) = 9)
      · have HN := Lib.hid (ht.out (n2.out (.inl c0)))
        have C0 := Lib.hid c0
        have e0 : ((s[k].toNat : Int) != 9) = false := by simpa using c0
        clear c0
        go_wp2
        go_round
        case rel => exact ⟨k + 1, by omega, by go_num, HN.out⟩
        case measure => simp [intOf]; omega
      · have e0 : ((s[k].toNat : Int) != 9) = true := by simpa using c0
        by_cases c1 : ((s[k].toNat : Int) < 32)
        · have HN := Lib.hid (hf.out (n1.out ⟨c0, .inl c1⟩))
          clear c0
          go_wp2
          go_ret
          exact ⟨ret_bool HN.out.symm, rfl⟩
        · by_cases c2 : ((s[k].toNat : Int) = 127)
          · have HN := Lib.hid (hf.out (n1.out ⟨c0, .inr c2⟩))
            have e2 : ((s[k].toNat : Int) == 127) = true := by simpa using c2
            clear c0 c2
            go_wp2
            go_ret
            exact ⟨ret_bool HN.out.symm, rfl⟩
          · have HN := Lib.hid (ht.out (n2.out (.inr ⟨c1, c2⟩)))
            have e2 : ((s[k].toNat : Int) == 127) = false := by simpa using c2
            clear c0 c2
            go_wp2
            go_round
            case rel => exact ⟨k + 1, by omega, by go_num, HN.out⟩
            case measure => simp [intOf]; omega
    · have HN := Lib.hid (all_whole vis s k (by omega) HB.out)
      go_wp2
      go_ret
      exact ⟨ret_bool HN.out.symm, rfl⟩

theorem valS_of (s : ByteArray) (b c : Bool) (h1 : visS (us s) = b) (h2 : ((bs (trim (us s))).toList == s.toList) = c) : valS (us s) = (b && c) := by
  unfold valS
  rw [h1, ← h2, toList_bs, toList_us]
theorem value_c' (s : ByteArray) (hs : s.size ≤ 9223372036854775807) (w : World) :
    Calls Tryz.prog 145 #[.string s] w fun e w' => e = .returned (.bool (valS (us s))) ∧ w = w' := by
  have H1 := Lib.hid (fun wx => visible_c s hs wx)
  have H2 := Lib.hid (fun wx => trim_c s hs wx)
  have hv := valS_of s _ _ rfl rfl
  obtain ⟨t, ht⟩ : ∃ t, t = bs (trim (us s)) := ⟨_, rfl⟩
  rw [← ht] at H2 hv
  clear ht
  cases h1 : visS (us s) <;> cases h2 : (t.toList == s.toList)
  all_goals
    rw [h1] at H1 hv
    rw [h2] at hv
    have HV := Lib.hid hv
    clear h1 hv
    go_enter Tryz.func145, Tryz.ntmps145
    go_wp2_with (first | (go_at_call 51; refine (H1.out _).mono ?_; rintro e wx ⟨rfl, rfl⟩) | (go_at_call 50; refine (H2.out _).mono ?_; rintro e wx ⟨rfl, rfl⟩))
    go_ret
    exact ⟨ret_bool HV.out.symm, rfl⟩
end Go.Proofs.YtipdiddjhimdcaaGreatDoor

namespace Go.Proofs.YtipdiddjhimdcaaGreatDoor
open Go.RowKit

theorem one_us (s : ByteArray) (h : s.size = 1) : ∃ c, us s = [c] := by
  have : (us s).length = 1 := (length_us s).trans h
  match us s, this with
  | [c], _ => exact ⟨c, rfl⟩
theorem shorts_case (x : UInt8) : x = 118 ∨ x = 102 ∨ x = 116 ∨ x = 105 ∨ x = 109 ∨ x = 101 ∨ x = 108 ∨ x = 99 ∨ x = 115 ∨ x = 107 ∨ x = 111 ∨ x = 117 ∨
    (¬ x = 118 ∧ ¬ x = 102 ∧ ¬ x = 116 ∧ ¬ x = 105 ∧ ¬ x = 109 ∧ ¬ x = 101 ∧ ¬ x = 108 ∧ ¬ x = 99 ∧ ¬ x = 115 ∧ ¬ x = 107 ∧ ¬ x = 111 ∧ ¬ x = 117) := by
  have := all_bytes (fun x => x = 118 ∨ x = 102 ∨ x = 116 ∨ x = 105 ∨ x = 109 ∨ x = 101 ∨ x = 108 ∨ x = 99 ∨ x = 115 ∨ x = 107 ∨ x = 111 ∨ x = 117 ∨
    (¬ x = 118 ∧ ¬ x = 102 ∧ ¬ x = 116 ∧ ¬ x = 105 ∧ ¬ x = 109 ∧ ¬ x = 101 ∧ ¬ x = 108 ∧ ¬ x = 99 ∧ ¬ x = 115 ∧ ¬ x = 107 ∧ ¬ x = 111 ∧ ¬ x = 117)) (by decide +kernel) x
  exact this

set_option maxHeartbeats 1600000 in
theorem long_c (s : ByteArray) (hs : s.size ≤ 9223372036854775807) (w : World) :
    Calls Tryz.prog 48 #[.string s] w fun e w' => e = .returned (.string (bs (longS (us s)))) ∧ Below w.heap.size w w' := by
  by_cases h1 : s.size = 1
  · obtain ⟨c, hc⟩ := one_us s h1
    have H := Lib.hid (fun wx => lowerP_c s hs wx)
    have hl : longS (us s) = (longGo (low c) shorts longs).getD (us s) := by rw [hc]; rfl
    obtain ⟨L, hL0⟩ : ∃ L, L = bs (lowr (us s)) := ⟨_, rfl⟩
    have hL : L.toList = [low c] := by rw [hL0, toList_bs, hc]; rfl
    rw [← hL0] at H
    clear hL0 hc
    obtain ⟨x, hx⟩ : ∃ x, x = low c := ⟨_, rfl⟩
    rw [← hx] at hL hl
    clear hx
    have n1 : ((s.size : Int) != 1) = false := by simp; omega
    clear h1
    rcases shorts_case x with rfl | rfl | rfl | rfl | rfl | rfl | rfl | rfl | rfl | rfl | rfl | rfl | ⟨a1, a2, a3, a4, a5, a6, a7, a8, a9, a10, a11, a12⟩
    case inr.inr.inr.inr.inr.inr.inr.inr.inr.inr.inr.inr =>
      have e : ∀ y : UInt8, ¬ x = y → ¬ x.toNat = y.toNat := fun y h h' => h (UInt8.toNat_inj.1 h')
      have hl2 : longS (us s) = us s := by
        rw [hl]
        simp only [longGo, shorts, longs, if_neg (e _ a1), if_neg (e _ a2), if_neg (e _ a3), if_neg (e _ a4), if_neg (e _ a5), if_neg (e _ a6), if_neg (e _ a7), if_neg (e _ a8), if_neg (e _ a9), if_neg (e _ a10), if_neg (e _ a11), if_neg (e _ a12), Option.getD_none]
      have f : ∀ y : UInt8, ¬ x = y → ¬ L.toList = [y] ∧ (L.toList == [y]) = false := fun y h => by
        have : ¬ L.toList = [y] := by rw [hL]; intro h'; injection h' with h' _; exact h h'
        exact ⟨this, by simpa using this⟩
      obtain ⟨m1, e1⟩ := f 118 a1
      obtain ⟨m2, e2⟩ := f 102 a2
      obtain ⟨m3, e3⟩ := f 116 a3
      obtain ⟨m4, e4⟩ := f 105 a4
      obtain ⟨m5, e5⟩ := f 109 a5
      obtain ⟨m6, e6⟩ := f 101 a6
      obtain ⟨m7, e7⟩ := f 108 a7
      obtain ⟨m8, e8⟩ := f 99 a8
      obtain ⟨m9, e9⟩ := f 115 a9
      obtain ⟨m10, e10⟩ := f 107 a10
      obtain ⟨m11, e11⟩ := f 111 a11
      obtain ⟨m12, e12⟩ := f 117 a12
      clear hL e f a1 a2 a3 a4 a5 a6 a7 a8 a9 a10 a11 a12
      have HL := Lib.hid hl2
      clear hl hl2
      go_enter Tryz.func48, Tryz.ntmps48
      go_wp2_with (go_at_call 96; refine (H.out _).mono ?_; rintro e wx ⟨rfl, hB⟩)
      go_ret
      exact ⟨ret_bs HL.out.symm, hB⟩
    all_goals
      have HL := Lib.hid hl
      clear hl
      go_enter Tryz.func48, Tryz.ntmps48
      go_wp2_with (go_at_call 96; refine (H.out _).mono ?_; rintro e wx ⟨rfl, hB⟩)
      go_ret
      exact ⟨ret_bs (by rw [HL.out]; rfl), hB⟩
  · have HL := Lib.hid (longS_two (us s) (by rw [length_us]; exact h1))
    have n1 : ((s.size : Int) != 1) = true := by simp; omega
    clear h1
    go_enter Tryz.func48, Tryz.ntmps48
    go_wp2
    go_ret
    exact ⟨ret_bs HL.out.symm, Below.refl _ _⟩

theorem length_c (s : ByteArray) (hs : s.size ≤ 9223372036854775807) (w : World) :
    Calls Tryz.prog 52 #[.string s] w fun e w' => e = .returned (.bool (isLen (longS (us s)))) ∧ Below w.heap.size w w' := by
  have H := Lib.hid (fun wx => long_c s hs wx)
  obtain ⟨L, hL⟩ : ∃ L, L = longS (us s) := ⟨_, rfl⟩
  have hLs : L.length ≤ s.size ∨ L.length ≤ 16 := by
    rw [hL]
    by_cases h1 : s.size = 1
    · obtain ⟨c, hc⟩ := one_us s h1
      have e : longS [c] = (longGo (low c) shorts longs).getD [c] := rfl
      rw [hc, e]
      cases hg : longGo (low c) shorts longs with
      | none => left; simp; omega
      | some x =>
        right
        have : ∀ (r : List UInt8) (t : List (List UInt8)), (∀ y ∈ t, y.length ≤ 16) → ∀ x, longGo (low c) r t = some x → x.length ≤ 16 := by
          intro r
          induction r with
          | nil => intro t _ x h; simp [longGo] at h
          | cons a r ih =>
            intro t ht x h
            cases t with
            | nil => simp [longGo] at h
            | cons y t =>
              rw [longGo] at h
              by_cases hc : (low c).toNat = a.toNat
              · rw [if_pos hc] at h; injection h with h; rw [← h]; exact ht y (List.mem_cons_self ..)
              · rw [if_neg hc] at h; exact ih t (fun z hz => ht z (List.mem_cons_of_mem _ hz)) x h
        exact this shorts longs (by decide) x hg
    · left; rw [longS_two _ (by rw [length_us]; exact h1), length_us]; exact Nat.le_refl _
  have H2 := Lib.hid (fun wx => same_c (bs L) ⟨#[67, 111, 110, 116, 101, 110, 116, 45, 76, 101, 110, 103, 116, 104]⟩ (by rw [size_bs]; omega) (by decide) wx)
  rw [us_bs] at H2
  rw [← hL] at H
  have HI := Lib.hid (show isLen (longS (us s)) = same L (us ⟨#[67, 111, 110, 116, 101, 110, 116, 45, 76, 101, 110, 103, 116, 104]⟩) by rw [hL]; rfl)
  obtain ⟨b, hb⟩ : ∃ b, b = same L (us ⟨#[67, 111, 110, 116, 101, 110, 116, 45, 76, 101, 110, 103, 116, 104]⟩) := ⟨_, rfl⟩
  rw [← hb] at H2 HI
  obtain ⟨M, hM⟩ : ∃ M, M = bs L := ⟨_, rfl⟩
  rw [← hM] at H H2
  clear hb hM hL hLs
  go_enter Tryz.func52, Tryz.ntmps52
  go_wp2_with (first | (go_at_call 48; refine (H.out _).mono ?_; rintro e wx ⟨rfl, hB⟩) | (go_at_call 93; refine (H2.out _).mono ?_; rintro e wy ⟨rfl, hD⟩))
  go_ret
  exact ⟨ret_bool HI.out.symm, hB.trans hD.below⟩
theorem targS_of (s : ByteArray) (h : 0 < s.size) : targS (us s) = (visS (us s) && !((us s).any blank)) := by
  unfold targS
  have e1 : (us s == []) = false := by
    rw [beq_eq_false_iff_ne]
    intro e
    have : s.size = 0 := by rw [← length_us, e]; rfl
    omega
  rw [e1]
  have : ∀ l : List UInt8, (l.all fun c => !blank c) = !l.any blank := by
    intro l; induction l with
    | nil => rfl
    | cons c r ih => simp [List.all_cons, List.any_cons, ih]
  rw [this]; simp
theorem target_c (s : ByteArray) (hs : s.size < 4294967281) (w : World) :
    Calls Tryz.prog 148 #[.string s] w fun e w' => e = .returned (.bool (targS (us s))) ∧ Below w.heap.size w w' := by
  by_cases hz : s.size = 0
  · obtain rfl := eq_empty hz
    go_enter Tryz.func148, Tryz.ntmps148
    go_wp2
    go_ret
    exact ⟨ret_bool (by rfl), Below.refl _ _⟩
  · have h1 := isEmpty_f hz
    have h2 := ne_empty hz
    have hT := targS_of s (by omega)
    have H1 := Lib.hid (fun wx => visible_c s (by omega) wx)
    have H2 := Lib.hid (fun wx => containsAny_c s hs wx)
    have hR : Below w.heap.size w w := Below.refl _ _
    cases hv : visS (us s) <;> cases hb : (us s).any blank
    all_goals
      rw [hv] at H1 hT
      rw [hb] at H2 hT
      have HT := Lib.hid hT
      clear hv hb hT
      go_enter Tryz.func148, Tryz.ntmps148
      go_wp2_with (first | (go_at_call 51; refine (H1.out _).mono ?_; rintro e wx ⟨rfl, rfl⟩) | (go_at_call 57; refine (H2.out _).mono ?_; rintro e wx ⟨rfl, hR⟩))
      go_ret
      exact ⟨ret_bool HT.out.symm, hR⟩

end Go.Proofs.YtipdiddjhimdcaaGreatDoor

namespace Go.Proofs.YtipdiddjhimdcaaGreatDoor
open Go.RowKit

theorem Blk.f6 {w : World} {g : Nat} {t : TypeId} {a b c d e f : Value} (h : Blk w g t #[a, b, c, d, e, f]) :
    w.cell? ⟨g, 0, none⟩ = some a ∧ w.cell? ⟨g, 1, none⟩ = some b ∧ w.cell? ⟨g, 2, none⟩ = some c ∧ w.cell? ⟨g, 3, none⟩ = some d ∧ w.cell? ⟨g, 4, none⟩ = some e ∧ w.cell? ⟨g, 5, none⟩ = some f :=
  ⟨boxedCell h 0, boxedCell h 1, boxedCell h 2, boxedCell h 3, boxedCell h 4, boxedCell h 5⟩
theorem us_ne (s : ByteArray) (h : s.size ≠ 0) : ¬ us s = [] := by
  intro e; exact h (by rw [← length_us, e]; rfl)
theorem us_beq (s : ByteArray) : (us s == []) = decide (s.size = 0) := by
  by_cases h : s.size = 0
  · rw [eq_empty h]; rfl
  · rw [decide_eq_false h, beq_eq_false_iff_ne]; exact us_ne s h
theorem first_req (M T R B : ByteArray) (x : Int) (H : List Hdr) (h : M.size ≠ 0) : firstS ⟨us M, us T, x, us R, H, us B⟩ = (token (us M) && targS (us T) && (x == 0) && decide (R.size = 0)) := by
  unfold firstS; rw [if_neg (us_ne M h), us_beq]
theorem first_res (T R B : ByteArray) (x : Int) (H : List Hdr) : firstS ⟨us ByteArray.empty, us T, x, us R, H, us B⟩ = (decide (100 ≤ x) && decide (x ≤ 699) && valS (us R) && decide (T.size = 0)) := by
  unfold firstS; rw [if_pos (show us ByteArray.empty = [] from rfl), us_beq]

set_option maxHeartbeats 3200000 in
theorem firstF_c (M T R B : ByteArray) (x : Int) (u : Value) (H : List Hdr) (hM : M.size ≤ 4294967280) (hT : T.size ≤ 4294967280) (hR : R.size ≤ 4294967280) (w : World) :
    Calls Tryz.prog 94 #[.agg #[.string M, .string T, .int .i64 x, .string R, u, .string B]] w fun e w' => e = .returned (.bool (firstS ⟨us M, us T, x, us R, H, us B⟩)) ∧ Below w.heap.size w w' := by
  have hB0 : Below w.heap.size w (w.alloc (.cells #[.string M, .string T, .int .i64 x, .string R, u, .string B] 45)) := (Below.refl _ _).alloc (Nat.le_refl _) _
  by_cases hz : M.size = 0
  · obtain rfl := eq_empty hz
    have H1 := Lib.hid (fun wx => value_c' R (by omega) wx)
    have hV := first_res T R B x H
    by_cases x0 : 100 ≤ x <;> by_cases x1 : x ≤ 699 <;> by_cases tz : T.size = 0
    all_goals try (exfalso; omega)
    all_goals
      cases hv : valS (us R)
      all_goals
        rw [hv] at H1 hV
        first
          | rw [decide_eq_true x0] at hV
          | rw [decide_eq_false x0] at hV
        first
          | rw [decide_eq_true x1] at hV
          | rw [decide_eq_false x1] at hV
        first
          | rw [decide_eq_true tz] at hV
          | rw [decide_eq_false tz] at hV
        have HV := Lib.hid hV
        clear hv hV
        first
          | (have q1 := isEmpty_f tz; have q2 := ne_empty tz)
          | (obtain rfl := eq_empty tz)
        go_enter Tryz.func94, Tryz.ntmps94
        go_wp2_with (go_at_call 145; refine (H1.out _).mono ?_; rintro e wx ⟨rfl, rfl⟩)
        go_ret
        exact ⟨ret_bool (by rw [HV.out]; rfl), hB0⟩
  · have H1 := Lib.hid (fun wx => token_c M (by omega) wx)
    have H2 := Lib.hid (fun wx => target_c T (by omega) wx)
    have hV := first_req M T R B x H hz
    have m1 := isEmpty_f hz
    have m2 := ne_empty hz
    by_cases x0 : x = 0 <;> by_cases rz : R.size = 0
    all_goals
      cases hv : token (us M) <;> cases ht : targS (us T)
      all_goals
        rw [hv] at H1 hV
        rw [ht] at H2 hV
        first
          | (have x2 : (x == 0) = true := by simpa using x0)
          | (have x2 : (x == 0) = false := by simpa using x0)
        rw [x2] at hV
        first
          | rw [decide_eq_true rz] at hV
          | rw [decide_eq_false rz] at hV
        have HV := Lib.hid hV
        clear hv ht hV x0
        first
          | (have q1 := isEmpty_f rz; have q2 := ne_empty rz)
          | (obtain rfl := eq_empty rz)
        go_enter Tryz.func94, Tryz.ntmps94
        go_wp2_with (first | (go_at_call 31; refine (H1.out _).mono ?_; rintro e wx ⟨rfl, rfl⟩) | (go_at_call 148; refine (H2.out _).mono ?_; rintro e wx ⟨rfl, hC⟩; obtain ⟨hbk, hB1, hz1⟩ := newCall hC; obtain ⟨c0, c1, c2, c3, c4, c5⟩ := hbk.f6; clear hbk))
        go_ret
        exact ⟨ret_bool (by rw [HV.out]; rfl), by first | exact hB1 | exact hB0⟩

end Go.Proofs.YtipdiddjhimdcaaGreatDoor

namespace Go.Proofs.YtipdiddjhimdcaaGreatDoor
open Go.RowKit

theorem Strs.len {w : World} {base : Nat} {e : TypeId} {v : Value} {L : List (List UInt8)} (h : Strs w base e v L) : ∃ ao cap, v = .slice ao L.length cap := by
  rcases h.2 with ⟨h1, h2⟩ | ⟨g, cap, _, h1, _⟩
  · exact ⟨none, 0, by rw [h1, h2]⟩
  · exact ⟨_, cap, h1⟩
end Go.Proofs.YtipdiddjhimdcaaGreatDoor

namespace Go.Proofs.YtipdiddjhimdcaaGreatDoor
open Go.RowKit

theorem Blk.g6 {w : World} {g : Nat} {t : TypeId} {a b c d e f : Value} (h : Blk w g t #[a, b, c, d, e, f]) :
    w.cell? ⟨g, 0, none⟩ = some a ∧ w.cell? ⟨g, 1, none⟩ = some b ∧ w.cell? ⟨g, 2, none⟩ = some c ∧ w.cell? ⟨g, 3, none⟩ = some d ∧ w.cell? ⟨g, 4, none⟩ = some e ∧ w.cell? ⟨g, 5, none⟩ = some f ∧
    w.frozen? ⟨g, 0, none⟩ = false ∧ w.frozen? ⟨g, 1, none⟩ = false ∧ w.frozen? ⟨g, 2, none⟩ = false ∧ w.frozen? ⟨g, 3, none⟩ = false ∧ w.frozen? ⟨g, 4, none⟩ = false ∧ w.frozen? ⟨g, 5, none⟩ = false ∧ g < w.heap.size :=
  ⟨boxedCell h 0, boxedCell h 1, boxedCell h 2, boxedCell h 3, boxedCell h 4, boxedCell h 5, boxedFree h 0, boxedFree h 1, boxedFree h 2, boxedFree h 3, boxedFree h 4, boxedFree h 5, h.lt⟩
theorem Blk.drew {w : World} {g : Nat} {t : TypeId} {cs : Array Value} (h : Blk w g t cs) : Blk w.drew g t cs := h
end Go.Proofs.YtipdiddjhimdcaaGreatDoor

namespace Go.Proofs.YtipdiddjhimdcaaGreatDoor
open Go.RowKit

def Hdr.cells (p : Hdr) : List Value := [sv p.name, sv p.value]
/-- a slice of headers that reads as L -/
def RHdrs (w : World) (v : Value) (L : List Hdr) : Prop :=
  ((∃ ao cap, v = .slice ao 0 cap) ∧ L = []) ∨
  ∃ b off cap, v = .slice (some ⟨b, off, none⟩) L.length cap ∧ L.length ≤ cap ∧ cap ≤ maxLen ∧ b < w.heap.size ∧
    ∀ j (hj : j < L.length), w.cell? ⟨b, off + j * 2, none⟩ = some (sv L[j].name) ∧ w.cell? ⟨b, off + j * 2 + 1, none⟩ = some (sv L[j].value)
theorem RHdrs.below {w w' : World} {B : Nat} {v : Value} {L : List Hdr} (h : RHdrs w v L) (hB : Below B w w') (hs : w.heap.size ≤ B) : RHdrs w' v L := by
  rcases h with h | ⟨b, off, cap, h1, h2, h2', h3, h4⟩
  · exact .inl h
  · refine .inr ⟨b, off, cap, h1, h2, h2', Nat.lt_of_lt_of_le h3 hB.size, fun j hj => ?_⟩
    rw [hB.cell (p := ⟨b, off + j * 2, none⟩) (by show b < B; omega), hB.cell (p := ⟨b, off + j * 2 + 1, none⟩) (by show b < B; omega)]
    exact h4 j hj
theorem RHdrs.form {w : World} {v : Value} {L : List Hdr} (h : RHdrs w v L) : ∃ ao cap, v = .slice ao L.length cap ∧ L.length ≤ maxLen ∧
    (0 < L.length → ∃ b off, ao = some ⟨b, off, none⟩ ∧ b < w.heap.size ∧ ∀ j (hj : j < L.length), w.cell? ⟨b, off + j * 2, none⟩ = some (sv L[j].name) ∧ w.cell? ⟨b, off + j * 2 + 1, none⟩ = some (sv L[j].value)) := by
  rcases h with ⟨⟨ao, cap, rfl⟩, rfl⟩ | ⟨b, off, cap, rfl, h2, h2', h3, h4⟩
  · exact ⟨ao, cap, rfl, Nat.zero_le _, fun h => by simp at h⟩
  · exact ⟨some ⟨b, off, none⟩, cap, rfl, Nat.le_trans h2 h2', fun _ => ⟨b, off, rfl, h3, h4⟩⟩
theorem RHdrs.nil (w : World) : RHdrs w (.slice none 0 0) [] := .inl ⟨⟨_, _, rfl⟩, rfl⟩
/-- a slice of headers of the call's own -/
def Hdrs (w : World) (base : Nat) (v : Value) (L : List Hdr) : Prop := w.ownsRow base 68 2 v L.length (L.flatMap Hdr.cells)
theorem Hdrs.nil (w : World) (base : Nat) : Hdrs w base (.slice none 0 0) [] := World.ownsRow_nil w base _ 2
theorem flat_atH : ∀ (L : List Hdr) (j : Nat) (hj : j < L.length) (i : Nat), i < 2 → (L.flatMap Hdr.cells)[j * 2 + i]? = L[j].cells[i]?
  | p :: r, 0, _, i, hi => by
    rw [List.flatMap_cons, Nat.zero_mul, Nat.zero_add, List.getElem?_append_left (by simpa [Hdr.cells] using hi)]; rfl
  | p :: r, j + 1, hj, i, hi => by
    rw [List.flatMap_cons, List.getElem?_append_right (by simp [Hdr.cells]; omega)]
    have : (j + 1) * 2 + i - p.cells.length = j * 2 + i := by simp [Hdr.cells]; omega
    rw [this]
    exact flat_atH r j (by simpa using hj) i hi
theorem Hdrs.read {w : World} {base : Nat} {v : Value} {L : List Hdr} (h : Hdrs w base v L) : RHdrs w v L := by
  rcases RRow.of_own h with ⟨h1, h2, _⟩ | ⟨b, off, cap, h1, h2, h2', h3, h4⟩
  · exact .inl ⟨h1, List.eq_nil_of_length_eq_zero h2⟩
  · refine .inr ⟨b, off, cap, h1, h2, h2', h3, fun j hj => ⟨?_, ?_⟩⟩
    · exact h4 (j * 2) _ (flat_atH L j hj 0 (by decide))
    · exact h4 (j * 2 + 1) _ (flat_atH L j hj 1 (by decide))
theorem Hdrs.below {w w' : World} {base B : Nat} {v : Value} {L : List Hdr} (h : Hdrs w base v L) (hB : Below B w w') (hs : w.heap.size ≤ B) : Hdrs w' base v L := by
  refine ⟨h.1, ?_⟩
  rcases h.2 with hn | ⟨g, cap, cur, rfl, hb, hgg, rest⟩
  · exact .inl hn
  · refine .inr ⟨g, cap, cur, rfl, hb, ?_, rest⟩
    have hlt := (Array.getElem?_eq_some_iff.1 hgg).1
    rw [hB.block g (by omega)]; exact hgg
theorem Hdrs.set {w : World} {base : Nat} {v : Value} {L : List Hdr} (h : Hdrs w base v L) {p : Addr} (hp : p.block < base) (x : Value) : Hdrs (w.setCell p x) base v L :=
  ownsRow_setCell_below h hp x
theorem Hdrs.len {w : World} {base : Nat} {v : Value} {L : List Hdr} (h : Hdrs w base v L) : ∃ ao cap, v = .slice ao L.length cap ∧ (∀ a, ao = some a → base ≤ a.block) := by
  rcases h.2 with ⟨h1, h2⟩ | ⟨g, cap, _, h1, hb, _⟩
  · exact ⟨none, 0, by rw [h1, h2], fun a h => by cases h⟩
  · exact ⟨_, cap, h1, fun a h => by injection h with h; rw [← h]; exact hb⟩
/-- a slice value that lies from block B on, or nowhere -/
def FreshH (B : Nat) (u : Value) : Prop := ∀ a n c, u = .slice (some a) n c → B ≤ a.block
theorem FreshH.mono {B B' : Nat} {u : Value} (h : FreshH B u) (hB : B' ≤ B) : FreshH B' u := fun a n c e => Nat.le_trans hB (h a n c e)
theorem RHdrs.set {w : World} {B : Nat} {u : Value} {L : List Hdr} (h : RHdrs w u L) (hF : FreshH B u) {p : Addr} (hp : p.block < B) (x : Value) : RHdrs (w.setCell p x) u L := by
  rcases h with h | ⟨b, off, cap, h1, h2, h2', h3, h4⟩
  · exact .inl h
  · refine .inr ⟨b, off, cap, h1, h2, h2', by simpa using h3, fun j hj => ?_⟩
    have hne : B ≤ b := hF ⟨b, off, none⟩ _ _ h1
    have hk : ∀ o, (w.setCell p x).cell? ⟨b, o, none⟩ = w.cell? ⟨b, o, none⟩ := fun o => World.cell?_setCell_other w p ⟨b, o, none⟩ x (fun e => by rw [e] at hp; exact absurd hp (by show ¬ b < B; omega))
    rw [hk, hk]
    exact h4 j hj

section
variable {P : Program} {ops : Array Oper} {rest : List Oper} {o : Oper} {a : Act} {Q : Exit → Act → World → Prop}
end

end Go.Proofs.YtipdiddjhimdcaaGreatDoor

namespace Go.Proofs.YtipdiddjhimdcaaGreatDoor
open Go.RowKit Go.Sort

theorem same_belowQ {P : Program} {f : FuncId} {args : Array Value} {w : World} {v : Value} (h : Calls P f args w fun e w' => e = .returned v ∧ w = w') :
    Calls P f args w fun e w' => e = .returned v ∧ Below w.heap.size w w' := h.mono fun _ _ ⟨a, b⟩ => ⟨a, b ▸ Below.refl _ _⟩
theorem regrownB {W wq : World} (h : ∃ p : Regrown, wq = grow (redrawn W p.d) p.os) : Below W.heap.size W wq := by
  obtain ⟨p, rfl⟩ := h; exact below_regrown W p.d p.os

theorem checkS_first (m : Mg) (h : firstS m = false) : checkS m = 60 := by unfold checkS; rw [if_pos h]
theorem checkS_many (m : Mg) (h : firstS m = true) (h2 : 64 < m.hdrs.length) : checkS m = 4 := by unfold checkS; rw [if_neg (by rw [h]; decide), if_pos h2]
theorem checkS_bad (m : Mg) (h : firstS m = true) (h2 : ¬ 64 < m.hdrs.length) (k : Nat) (hk : k < m.hdrs.length) (hb : badH m.hdrs[k] = true) : checkS m = 61 := by
  unfold checkS; rw [if_neg (by rw [h]; decide), if_neg h2, if_pos]
  exact List.any_eq_true.2 ⟨_, List.getElem_mem hk, hb⟩
theorem checkS_ok (m : Mg) (h : firstS m = true) (h2 : ¬ 64 < m.hdrs.length) (hb : (m.hdrs.take m.hdrs.length).any badH = false) : checkS m = 0 := by
  rw [List.take_length] at hb
  unfold checkS; rw [if_neg (by rw [h]; decide), if_neg h2, if_neg (by rw [hb]; decide)]
theorem badH_next (H : List Hdr) (k : Nat) (h : k < H.length) (hp : (H.take k).any badH = false) (hb : badH H[k] = false) : (H.take (k + 1)).any badH = false := by
  rw [List.take_succ_eq_append_getElem h, List.any_append, hp, List.any_cons, hb]; rfl
theorem badH_cases (h : Hdr) :
    (token h.name = false ∧ badH h = true) ∨ (token h.name = true ∧ ¬ longS h.name = h.name ∧ badH h = true) ∨ (token h.name = true ∧ longS h.name = h.name ∧ isLen h.name = true ∧ badH h = true) ∨
    (token h.name = true ∧ longS h.name = h.name ∧ isLen h.name = false ∧ valS h.value = false ∧ badH h = true) ∨ (token h.name = true ∧ longS h.name = h.name ∧ isLen h.name = false ∧ valS h.value = true ∧ badH h = false) := by
  unfold badH
  cases h1 : token h.name
  · exact .inl ⟨rfl, by simp⟩
  by_cases h2 : longS h.name = h.name
  · cases h3 : isLen h.name
    · cases h4 : valS h.value
      · exact .inr (.inr (.inr (.inl ⟨rfl, h2, rfl, rfl, by simp⟩)))
      · exact .inr (.inr (.inr (.inr ⟨rfl, h2, rfl, rfl, by simp [h2]⟩)))
    · exact .inr (.inr (.inl ⟨rfl, h2, rfl, by simp⟩))
  · exact .inr (.inl ⟨rfl, h2, by simp [h2]⟩)


set_option maxRecDepth 100000 in
set_option maxHeartbeats 6400000 in
theorem check_c (M T R B : ByteArray) (x : Int) (u : Value) (H : List Hdr) (hM : M.size ≤ 4294967280) (hT : T.size ≤ 4294967280) (hR : R.size ≤ 4294967280) (w : World) (hu : RHdrs w u H)
    (hb : ∀ h ∈ H, h.name.length ≤ 140737488355328 ∧ h.value.length ≤ 140737488355328) :
    Calls Tryz.prog 89 #[.agg #[.string M, .string T, .int .i64 x, .string R, u, .string B]] w fun e w' => e = .returned (.int .i64 (checkS ⟨us M, us T, x, us R, H, us B⟩)) ∧ Below w.heap.size w w' := by
  obtain ⟨ao, cap, rfl, hm1, c1⟩ := hu.form
  unfold maxLen at hm1
  have C1 := Lib.hid c1
  have HBD := Lib.hid hb
  have HF := Lib.hid (fun wx => firstF_c M T R B x (.slice ao H.length cap) H hM hT hR wx)
  have h60 := checkS_first ⟨us M, us T, x, us R, H, us B⟩
  have h4 := checkS_many ⟨us M, us T, x, us R, H, us B⟩
  have h61 := checkS_bad ⟨us M, us T, x, us R, H, us B⟩
  have h0 := checkS_ok ⟨us M, us T, x, us R, H, us B⟩
  clear c1 hu hb
  have hB0 : Below w.heap.size w (w.alloc (.cells #[.string M, .string T, .int .i64 x, .string R, .slice ao H.length cap, .string B] 45)) := (Below.refl _ _).alloc (Nat.le_refl _) _
  obtain ⟨w0, hw0⟩ : ∃ w0, w0 = w.alloc (.cells #[.string M, .string T, .int .i64 x, .string R, .slice ao H.length cap, .string B] 45) := ⟨_, rfl⟩
  have bm : Blk w0 w.heap.size 45 #[.string M, .string T, .int .i64 x, .string R, .slice ao H.length cap, .string B] := by rw [hw0]; exact Blk.new _ _ _
  rw [← hw0] at hB0
  have HW0 := Lib.hid hw0.symm
  clear hw0
  obtain ⟨_, _, _, _, _, _, f0, f1, f2, f3, f4, f5, z2⟩ := bm.g6
  cases hf : firstS ⟨us M, us T, x, us R, H, us B⟩
  · have HE := Lib.hid (h60 hf)
    rw [hf] at HF
    clear h60 h4 h61 h0 hf
    go_enter Tryz.func89, Tryz.ntmps89
    go_wp2_with (go_at_call 94; rw [HW0.out]; refine (HF.out _).mono ?_; rintro e w1 ⟨rfl, hC⟩)
    go_ret
    exact ⟨by rw [HE.out]; rfl, hB0.trans (hC.mono hB0.size)⟩
  · rw [hf] at HF
    by_cases h64 : 64 < H.length
    · have HE := Lib.hid (h4 hf h64)
      have t64 : ((64 : Int) < (H.length : Int)) := by omega
      clear h60 h4 h61 h0 hf
      go_enter Tryz.func89, Tryz.ntmps89
      go_wp2_with (go_at_call 94; rw [HW0.out]; refine (HF.out _).mono ?_; rintro e w1 ⟨rfl, hC⟩; obtain ⟨_, _, _, _, m4, _, _⟩ := (bm.call hC).g6)
      go_ret
      exact ⟨by rw [HE.out]; rfl, hB0.trans (hC.mono hB0.size)⟩
    · have H61 := Lib.hid (h61 hf h64)
      have H0 := Lib.hid (h0 hf h64)
      have t64 : ¬ ((64 : Int) < (H.length : Int)) := by omega
      clear h60 h4 h61 h0 hf
      go_enter Tryz.func89, Tryz.ntmps89
      go_wp2_with (go_at_call 94; rw [HW0.out]; refine (HF.out _).mono ?_; rintro e w1 ⟨rfl, hC⟩; obtain ⟨_, _, _, _, m4, _, _⟩ := (bm.call hC).g6)
      clear m4 f0 f1 f2 f3 f4 f5
      have hB1 : Below w.heap.size w w1 := hB0.trans (hC.mono hB0.size)
      go_loopw [15] (fun i wr => ∃ k : Nat, k ≤ H.length ∧ i = .int .i64 k ∧ Below w.heap.size w wr ∧ (H.take k).any badH = false) (fun i _ => H.length - (intOf i).toNat)
      case atStart => exact ⟨0, Nat.zero_le _, rfl, hB1, rfl⟩
      case round =>
        obtain ⟨k, hk, rfl, hBr, hp⟩ := hrel
        have HP := Lib.hid hp; clear hp
        by_cases hlt : k < H.length
        · obtain ⟨b, off, rfl, hb1, hc1⟩ := C1.out (by omega)
          obtain ⟨hbn, hbv⟩ := HBD.out _ (List.getElem_mem hlt)
          obtain ⟨N, hN⟩ : ∃ N, N = bs H[k].name := ⟨_, rfl⟩
          obtain ⟨V, hV⟩ : ∃ N, N = bs H[k].value := ⟨_, rfl⟩
          have x0 : wr.cell? ⟨b, off + k * 2, none⟩ = some (.string N) := by
            rw [hBr.cell (p := ⟨b, off + k * 2, none⟩) hb1, hN]; exact (hc1 k hlt).1
          have x1 : wr.cell? ⟨b, off + k * 2 + 1, none⟩ = some (.string V) := by
            rw [hBr.cell (p := ⟨b, off + k * 2 + 1, none⟩) hb1, hV]; exact (hc1 k hlt).2
          have hNs : N.size = H[k].name.length := by rw [hN, size_bs]
          have hVs : V.size = H[k].value.length := by rw [hV, size_bs]
          have k0 : (0 : Int) ≤ (k : Int) := by omega
          have W0 : (wr.alloc (.cells #[.string N, .string V] 68)).cell? ⟨wr.heap.size, 0, none⟩ = some (.string N) := boxedCell (heap_alloc_new wr _) 0
          have W1 : (wr.alloc (.cells #[.string N, .string V] 68)).cell? ⟨wr.heap.size, 1, none⟩ = some (.string V) := boxedCell (heap_alloc_new wr _) 1
          have q0 := cell_regrown W0
          have q1 := cell_regrown W1
          have cT := fun d os => Calls.regrown_of (same_belowQ (token_c N (by omega) (grow (redrawn (wr.alloc (.cells #[.string N, .string V] 68)) d) os)))
          have cL := fun d os => Calls.regrown_of (long_c N (by omega) (grow (redrawn (wr.alloc (.cells #[.string N, .string V] 68)) d) os))
          have cI := fun d os => Calls.regrown_of (length_c N (by omega) (grow (redrawn (wr.alloc (.cells #[.string N, .string V] 68)) d) os))
          have cV := fun d os => Calls.regrown_of (same_belowQ (value_c' V (by omega) (grow (redrawn (wr.alloc (.cells #[.string N, .string V] 68)) d) os)))
          have uN : us N = H[k].name := by rw [hN, us_bs]
          have uV : us V = H[k].value := by rw [hV, us_bs]
          have hbad := H61.out k hlt
          have hnext := badH_next H k hlt HP.out
          have hca := badH_cases H[k]
          rw [← uN, ← uV] at hca
          clear W0 W1 hN hV hNs hVs hbn hbv uN uV hc1 hb1
          rcases hca with ⟨h1, hh⟩ | ⟨h1, h2, hh⟩ | ⟨h1, h2, h3, hh⟩ | ⟨h1, h2, h3, h4, hh⟩ | ⟨h1, h2, h3, h4, hh⟩
          · have HE := Lib.hid (hbad hh)
            rw [h1] at cT
            clear h1 hh hbad hnext
            go_wp2; refine wp_region_quiet_below (by kernel_rfl) (by kernel_rfl) ?_; (repeat (first | go_big_quiet_step (first | with_reducible exact cT _ _ | with_reducible exact cL _ _ | with_reducible exact cI _ _ | with_reducible exact cV _ _) | quiet_step (first | with_reducible exact cT _ _ | with_reducible exact cL _ _ | with_reducible exact cI _ _ | with_reducible exact cV _ _))); refine wpQuiet_nil ?_; intro wq hw'; have hBq := regrownB hw'; clear hw'; go_wp2; go_ret; exact ⟨by rw [HE.out]; rfl, hBr.trans ((((Below.refl _ _).alloc (Nat.le_refl _) _).trans (hBq.mono (by rw [World.size_alloc]; omega))).mono hBr.size)⟩
          · have HE := Lib.hid (hbad hh)
            rw [h1] at cT
            obtain ⟨N2, hN2⟩ : ∃ N2, N2 = bs (longS (us N)) := ⟨_, rfl⟩
            have hne : (N2.toList == N.toList) = false := by rw [toList_us, toList_us, hN2, us_bs, beq_eq_false_iff_ne]; exact h2
            rw [← hN2] at cL
            clear h1 h2 hh hbad hnext hN2
            go_wp2; refine wp_region_quiet_below (by kernel_rfl) (by kernel_rfl) ?_; (repeat (first | go_big_quiet_step (first | with_reducible exact cT _ _ | with_reducible exact cL _ _ | with_reducible exact cI _ _ | with_reducible exact cV _ _) | quiet_step (first | with_reducible exact cT _ _ | with_reducible exact cL _ _ | with_reducible exact cI _ _ | with_reducible exact cV _ _))); refine wpQuiet_nil ?_; intro wq hw'; have hBq := regrownB hw'; clear hw'; go_wp2; go_ret; exact ⟨by rw [HE.out]; rfl, hBr.trans ((((Below.refl _ _).alloc (Nat.le_refl _) _).trans (hBq.mono (by rw [World.size_alloc]; omega))).mono hBr.size)⟩
          · have HE := Lib.hid (hbad hh)
            rw [h1] at cT
            rw [h2, bs_us] at cL
            rw [h2, h3] at cI
            clear h1 h2 h3 hh hbad hnext
            go_wp2; refine wp_region_quiet_below (by kernel_rfl) (by kernel_rfl) ?_; (repeat (first | go_big_quiet_step (first | with_reducible exact cT _ _ | with_reducible exact cL _ _ | with_reducible exact cI _ _ | with_reducible exact cV _ _) | quiet_step (first | with_reducible exact cT _ _ | with_reducible exact cL _ _ | with_reducible exact cI _ _ | with_reducible exact cV _ _))); refine wpQuiet_nil ?_; intro wq hw'; have hBq := regrownB hw'; clear hw'; go_wp2; go_ret; exact ⟨by rw [HE.out]; rfl, hBr.trans ((((Below.refl _ _).alloc (Nat.le_refl _) _).trans (hBq.mono (by rw [World.size_alloc]; omega))).mono hBr.size)⟩
          · have HE := Lib.hid (hbad hh)
            rw [h1] at cT
            rw [h2, bs_us] at cL
            rw [h2, h3] at cI
            rw [h4] at cV
            clear h1 h2 h3 h4 hh hbad hnext
            go_wp2; refine wp_region_quiet_below (by kernel_rfl) (by kernel_rfl) ?_; (repeat (first | go_big_quiet_step (first | with_reducible exact cT _ _ | with_reducible exact cL _ _ | with_reducible exact cI _ _ | with_reducible exact cV _ _) | quiet_step (first | with_reducible exact cT _ _ | with_reducible exact cL _ _ | with_reducible exact cI _ _ | with_reducible exact cV _ _))); refine wpQuiet_nil ?_; intro wq hw'; have hBq := regrownB hw'; clear hw'; go_wp2; go_ret; exact ⟨by rw [HE.out]; rfl, hBr.trans ((((Below.refl _ _).alloc (Nat.le_refl _) _).trans (hBq.mono (by rw [World.size_alloc]; omega))).mono hBr.size)⟩
          · have HN := Lib.hid (hnext hh)
            rw [h1] at cT
            rw [h2, bs_us] at cL
            rw [h2, h3] at cI
            rw [h4] at cV
            clear h1 h2 h3 h4 hh hbad hnext
            go_wp2
            refine wp_region_quiet_below (by kernel_rfl) (by kernel_rfl) ?_; (repeat (first | go_big_quiet_step (first | with_reducible exact cT _ _ | with_reducible exact cL _ _ | with_reducible exact cI _ _ | with_reducible exact cV _ _) | quiet_step (first | with_reducible exact cT _ _ | with_reducible exact cL _ _ | with_reducible exact cI _ _ | with_reducible exact cV _ _))); refine wpQuiet_nil ?_; intro wq hw'; have hBq := regrownB hw'; clear hw'
            go_wp2
            go_roundw
            case rel => exact ⟨k + 1, by omega, by go_num, hBr.trans ((((Below.refl _ _).alloc (Nat.le_refl _) _).trans (hBq.mono (by rw [World.size_alloc]; omega))).mono hBr.size), HN.out⟩
            case measure => simp [intOf]; omega
        · have hk' : k = H.length := by omega
          have HE := Lib.hid (H0.out (by rw [← hk']; exact HP.out))
          go_wp2
          go_ret
          exact ⟨by rw [HE.out]; rfl, hBr⟩

end Go.Proofs.YtipdiddjhimdcaaGreatDoor

