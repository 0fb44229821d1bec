/- Contracts of Go functions, and plain laws. No condition but those told. -/
import Derived.Test.YtipdiddjhimdcaaGreatDoorS02
import Derived.Lib.QuietBelow
import Derived.BigQuiet
import Derived.Laws.RangeAny
import Derived.Laws.Runes
import Derived.Deep.LoopGhost
import Derived.Lib.IndexAny
import Derived.Lib.OthersKept
import Derived.Shelf.Strings.AsciiSet
import Derived.Lib.AsciiSet
import Derived.Laws.OwnMore
import Derived.Deep.AppendLies
set_option linter.unusedSimpArgs false
set_option linter.unusedVariables false
set_option maxRecDepth 100000
namespace Go.Proofs.YtipdiddjhimdcaaGreatDoor
open Go.RowKit Go.Sort
theorem checkV_cases (N : ByteArray) (x : Int) (F : List Prm) :
  (hostS (us N) = false ∧ checkV ⟨us N, x, F⟩ = 32) ∨ (hostS (us N) = true ∧ x < 0 ∧ checkV ⟨us N, x, F⟩ = 33) ∨ (hostS (us N) = true ∧ ¬ x < 0 ∧ 65535 < x ∧ checkV ⟨us N, x, F⟩ = 33) ∨
  (hostS (us N) = true ∧ ¬ x < 0 ∧ ¬ 65535 < x ∧ ((textS F).2 != 0) = true ∧ checkV ⟨us N, x, F⟩ = (textS F).2) ∨ (hostS (us N) = true ∧ ¬ x < 0 ∧ ¬ 65535 < x ∧ ((textS F).2 != 0) = false ∧ (textS F).2 = 0 ∧ checkV ⟨us N, x, F⟩ = 0) := by
 unfold checkV
 dsimp only
 cases hh : hostS (us N)
 ·exact .inl ⟨rfl, rfl⟩
 ·rw [if_neg (by decide)]
  by_cases h0 : x < 0
  ·exact .inr (.inl ⟨rfl, h0, if_pos (.inl h0)⟩)
  ·by_cases h1 : 65535 < x
   ·exact .inr (.inr (.inl ⟨rfl, h0, h1, if_pos (.inr h1)⟩))
   ·rw [if_neg (by rintro (h | h); exact h0 h; exact h1 h)]
    cases ht : ((textS F).2 != 0)
    ·have : (textS F).2 = 0 := by simpa using ht
     exact .inr (.inr (.inr (.inr ⟨rfl, h0, h1, rfl, this, this⟩)))
    ·exact .inr (.inr (.inr (.inl ⟨rfl, h0, h1, rfl, rfl⟩)))
set_option maxHeartbeats 1600000 in
theorem checkV_c (N : ByteArray) (x : Int) (u : Value) (F : List Prm) (hN : N.size ≤ 4294967280) (w : World) (hm : Ml w) (hu : RPrms w u F) (hbd : ∀ p ∈ F, p.name.length ≤ 4294967280 ∧ p.value.length ≤ 4294967280) :
  Calls Tryz.prog 88 #[.agg #[.string N, .int .i64 x, u]] w fun e w' => e = .returned (.int .i64 (checkV ⟨us N, x, F⟩)) ∧ Below w.heap.size w w' := by
 have HM := κ hm
 clear hm
 have HU := κ hu
 obtain ⟨ao, cap, rfl, _, _⟩ := hu.form
 clear hu
 have HT := κ (fun wx hx hv => text_c (.slice ao F.length cap) F wx hx hv hbd)
 have HH := κ (fun wx hx => host_c N hN wx hx)
 have hcs := checkV_cases N x F
 obtain ⟨tx, htx⟩ : ∃ t, t = textS F := ⟨_, rfl⟩
 rw [← htx] at HT hcs
 clear htx hbd
 obtain ⟨ts, te⟩ := tx
 dsimp only at HT hcs
 obtain ⟨C, hC⟩ : ∃ C, C = checkV ⟨us N, x, F⟩ := ⟨_, rfl⟩
 rw [← hC] at hcs ⊢
 clear hC
 have hB0 : Below w.heap.size w (w.alloc (.cells #[.string N, .int .i64 x, .slice ao F.length cap] 87)) := ((Below.refl _ _).alloc (ρ _) _)
 have bm := Blk.new w 87 #[.string N, .int .i64 x, .slice ao F.length cap]
 obtain ⟨w0, hw0⟩ : ∃ w0, w0 = w.alloc (.cells #[.string N, .int .i64 x, .slice ao F.length cap] 87) := ⟨_, rfl⟩
 rw [← hw0] at hB0 bm
 have HW0 := κ hw0
 clear hw0
 rcases hcs with ⟨h1, rfl⟩ | ⟨h1, h2, rfl⟩ | ⟨h1, h2, h3, rfl⟩ | ⟨h1, h2, h3, h4, rfl⟩ | ⟨h1, h2, h3, h4, _, rfl⟩
 all_goals
  rw [h1] at HH
  clear h1
  go_enter Tryz.func88, Tryz.ntmps88
  go_wp2_with (first | (go_at_call 82; (try rw [← HW0.out]); refine (HT.out _ (HM.out.below hB0) (HU.out.below hB0 (ρ _))).mono ?_; rintro e w1 ⟨rfl, hC1⟩; have bm := bm.call hC1; obtain ⟨p0, p1, p2, _, _, _, _⟩ := bm.f3; have hZ := hB0.trans (hC1.mono hB0.size)) | (go_at_call 141; refine (HH.out _ (HM.out.below hZ)).mono ?_; rintro e w2 ⟨rfl, hC2⟩; have bm := bm.call hC2; obtain ⟨p0, p1, p2, _, _, _, _⟩ := bm.f3; have hZ2 := hZ.trans (hC2.mono hZ.size)))
  go_ret
  exact ⟨rfl, hZ2⟩
theorem ret_sp {s : ByteArray} {n : Int} {l : List UInt8} (h : us s = l) : Ending.returned (.tuple #[.string s, .int .i64 n]) = .returned (.tuple #[.string (bs l), .int .i64 n]) := by rw [← h, bs_us]
set_option maxHeartbeats 3200000 in
theorem printV_c (N : ByteArray) (x : Int) (u : Value) (F : List Prm) (hN : N.size ≤ 4294967280) (hx0 : -9223372036854775808 ≤ x) (hx1 : x ≤ 9223372036854775807) (w : World) (hm : Ml w) (hu : RPrms w u F) (hbd : ∀ p ∈ F, p.name.length ≤ 4294967280 ∧ p.value.length ≤ 4294967280) :
  Calls Tryz.prog 39 #[.agg #[.string N, .int .i64 x, u]] w fun e w' => e = .returned (.tuple #[.string (bs (printV ⟨us N, x, F⟩).1), .int .i64 (printV ⟨us N, x, F⟩).2]) ∧ Below w.heap.size w w' := by
 have HM := κ hm
 clear hm
 have HU := κ hu
 obtain ⟨ao, cap, rfl, _, _⟩ := hu.form
 clear hu
 have HC := κ (fun wx hx hv => checkV_c N x (.slice ao F.length cap) F hN wx hx hv hbd)
 have HT := κ (fun wx hx hv => text_c (.slice ao F.length cap) F wx hx hv hbd)
 have HD := κ (fun wx => digits_c x hx0 hx1 wx)
 have hpc : (checkV ⟨us N, x, F⟩ ≠ 0 ∧ printV ⟨us N, x, F⟩ = ([], checkV ⟨us N, x, F⟩)) ∨ (checkV ⟨us N, x, F⟩ = 0 ∧ N.size ≤ 64 ∧ printV ⟨us N, x, F⟩ = (textV ⟨us N, x, F⟩, 0) ∧ 0 ≤ x ∧ x ≤ 65535) := by
  unfold printV
  by_cases h : checkV ⟨us N, x, F⟩ = 0
  ·obtain ⟨h1, h2, h3, _⟩ := check_parts _ h
   exact .inr ⟨h, by rw [← length_us]; exact (host_low _ h1).2.2, if_pos h, h2, h3⟩
  ·exact .inl ⟨h, if_neg h⟩
 obtain ⟨PV, hPV⟩ : ∃ PV, PV = printV ⟨us N, x, F⟩ := ⟨_, rfl⟩
 rw [← hPV] at hpc ⊢
 clear hPV
 obtain ⟨C, hC⟩ : ∃ C, C = checkV ⟨us N, x, F⟩ := ⟨_, rfl⟩
 rw [← hC] at HC hpc
 clear hC
 have htl := textS_le F
 obtain ⟨TV, hTV⟩ : ∃ TV, TV = bs (textS F).1 := ⟨_, rfl⟩
 have uTV : (textS F).1 = us TV := by rw [hTV, us_bs]
 have sTV : TV.size ≤ 3200 := by rw [hTV, size_bs]; exact htl
 rw [← hTV] at HT
 obtain ⟨te, hte⟩ : ∃ te, te = (textS F).2 := ⟨_, rfl⟩
 rw [← hte] at HT
 clear hte hTV htl hbd
 have hB0 : Below w.heap.size w (w.alloc (.cells #[.string N, .int .i64 x, .slice ao F.length cap] 87)) := (Below.refl _ _).alloc (ρ _) _
 have bm := Blk.new w 87 #[.string N, .int .i64 x, .slice ao F.length cap]
 obtain ⟨w0, hw0⟩ : ∃ w0, w0 = w.alloc (.cells #[.string N, .int .i64 x, .slice ao F.length cap] 87) := ⟨_, rfl⟩
 rw [← hw0] at hB0 bm
 have HW0 := κ hw0
 clear hw0
 rcases hpc with ⟨c0, rfl⟩ | ⟨c0, n64, rfl, x0, x1⟩
 ·have t0 : (C != 0) = true := by simpa using c0
  clear c0
  go_enter Tryz.func39, Tryz.ntmps39
  go_wp2_with (first | (go_at_call 88; rw [← HW0.out]; refine (HC.out _ (HM.out.below hB0) (HU.out.below hB0 (ρ _))).mono ?_; rintro e w1 ⟨rfl, hC1⟩; have bm := bm.call hC1; obtain ⟨p0, p1, p2, _, _, _, _⟩ := bm.f3; have hZ := hB0.trans (hC1.mono hB0.size)) | (go_at_call 88; refine (HC.out _ (HM.out.below hZ) (HU.out.below hZ (ρ _))).mono ?_; rintro e w9 ⟨rfl, hC9⟩; have hZ := hZ.trans (hC9.mono hZ.size)) | (go_at_call 82; refine (HT.out _ (HM.out.below hZ) (HU.out.below hZ (ρ _))).mono ?_; rintro e w2 ⟨rfl, hC2⟩; have bm := bm.call hC2; obtain ⟨p0, p1, p2, _, _, _, _⟩ := bm.f3; have hZ := hZ.trans (hC2.mono hZ.size)) | (go_at_call 83; refine (HD.out _).mono ?_; rintro e w3 ⟨rfl, hC3⟩; have bm := bm.call hC3; obtain ⟨p0, p1, p2, _, _, _, _⟩ := bm.f3; have hZ := hZ.trans (hC3.mono hZ.size)))
  go_ret2
  exact ⟨rfl, hZ⟩
 ·subst c0
  by_cases hp : 0 < x
  ·have ht : textV ⟨us N, x, F⟩ = nProto ++ 32 :: (us N ++ (58 :: digits x ++ us TV)) := by
    unfold textV portT; dsimp only; rw [if_pos hp, uTV]
   have hdl := portT_len x
   unfold portT at hdl
   rw [if_pos hp, List.length_cons] at hdl
   obtain ⟨D, hD⟩ : ∃ D, D = bs (digits x) := ⟨_, rfl⟩
   have uD : digits x = us D := by rw [hD, us_bs]
   have sD : D.size ≤ 21 := by rw [hD, size_bs]; omega
   rw [uD] at ht
   rw [← hD] at HD
   have HTX := κ ht
   have x2 : (x != 0) = true := by simp; omega
   clear ht hdl hD uD uTV
   go_enter Tryz.func39, Tryz.ntmps39
   go_wp2_with (first | (go_at_call 88; rw [← HW0.out]; refine (HC.out _ (HM.out.below hB0) (HU.out.below hB0 (ρ _))).mono ?_; rintro e w1 ⟨rfl, hC1⟩; have bm := bm.call hC1; obtain ⟨p0, p1, p2, _, _, _, _⟩ := bm.f3; have hZ := hB0.trans (hC1.mono hB0.size)) | (go_at_call 88; refine (HC.out _ (HM.out.below hZ) (HU.out.below hZ (ρ _))).mono ?_; rintro e w9 ⟨rfl, hC9⟩; have hZ := hZ.trans (hC9.mono hZ.size)) | (go_at_call 82; refine (HT.out _ (HM.out.below hZ) (HU.out.below hZ (ρ _))).mono ?_; rintro e w2 ⟨rfl, hC2⟩; have bm := bm.call hC2; obtain ⟨p0, p1, p2, _, _, _, _⟩ := bm.f3; have hZ := hZ.trans (hC2.mono hZ.size)) | (go_at_call 83; refine (HD.out _).mono ?_; rintro e w3 ⟨rfl, hC3⟩; have bm := bm.call hC3; obtain ⟨p0, p1, p2, _, _, _, _⟩ := bm.f3; have hZ := hZ.trans (hC3.mono hZ.size)))
   go_ret2
   exact ⟨ret_sp (by rw [HTX.out]; simp [us, nProto]) , hZ⟩
  ·have ht : textV ⟨us N, x, F⟩ = nProto ++ 32 :: (us N ++ us TV) := by
    unfold textV portT; dsimp only; rw [if_neg hp, uTV, List.nil_append]
   have HTX := κ ht
   have x2 : (x != 0) = false := by simp; omega
   clear ht uTV
   go_enter Tryz.func39, Tryz.ntmps39
   go_wp2_with (first | (go_at_call 88; rw [← HW0.out]; refine (HC.out _ (HM.out.below hB0) (HU.out.below hB0 (ρ _))).mono ?_; rintro e w1 ⟨rfl, hC1⟩; have bm := bm.call hC1; obtain ⟨p0, p1, p2, _, _, _, _⟩ := bm.f3; have hZ := hB0.trans (hC1.mono hB0.size)) | (go_at_call 88; refine (HC.out _ (HM.out.below hZ) (HU.out.below hZ (ρ _))).mono ?_; rintro e w9 ⟨rfl, hC9⟩; have hZ := hZ.trans (hC9.mono hZ.size)) | (go_at_call 82; refine (HT.out _ (HM.out.below hZ) (HU.out.below hZ (ρ _))).mono ?_; rintro e w2 ⟨rfl, hC2⟩; have bm := bm.call hC2; obtain ⟨p0, p1, p2, _, _, _, _⟩ := bm.f3; have hZ := hZ.trans (hC2.mono hZ.size)) | (go_at_call 83; refine (HD.out _).mono ?_; rintro e w3 ⟨rfl, hC3⟩; have bm := bm.call hC3; obtain ⟨p0, p1, p2, _, _, _, _⟩ := bm.f3; have hZ := hZ.trans (hC3.mono hZ.size)))
   go_ret2
   exact ⟨ret_sp (by rw [HTX.out]; simp [us, nProto]), hZ⟩
def nameT (d : List UInt8) : List UInt8 := if d = [] then [] else (quote d).1 ++ [32]
def textA (a : Adr) : List UInt8 := nameT a.disp ++ 60 :: (textU a.uri ++ 62 :: (textS a.ps).1)
def printA (a : Adr) : List UInt8 × Int := if checkA a = 0 then (textA a, 0) else ([], checkA a)
theorem printA_c (D S U H : ByteArray) (n : Int) (u1 u2 u3 : Value) (F G P : List Prm) (hD : D.size ≤ 4294967280) (hS : S.size ≤ 4294967280) (hH : H.size ≤ 4294967280) (hn0 : -9223372036854775808 ≤ n) (hn1 : n ≤ 9223372036854775807) (w : World) (hm : Ml w) (h1 : RPrms w u1 F) (h2 : RPrms w u2 G) (h3 : RPrms w u3 P) (hb1 : ∀ p ∈ F, p.name.length ≤ 4294967280 ∧ p.value.length ≤ 4294967280) (hb2 : ∀ p ∈ G, p.name.length ≤ 4294967280 ∧ p.value.length ≤ 4294967280) (hb3 : ∀ p ∈ P, p.name.length ≤ 4294967280 ∧ p.value.length ≤ 4294967280) :
  Calls Tryz.prog 40 #[.agg #[.string D, .string S, .string U, .string H, .int .i64 n, u1, u2, u3]] w fun e w' => e = .returned (.tuple #[.string (bs (printA (⟨us D, ⟨us S, us U, us H, n, F, G⟩, P⟩ : Adr)).1), .int .i64 (printA (⟨us D, ⟨us S, us U, us H, n, F, G⟩, P⟩ : Adr)).2]) ∧ Below w.heap.size w w' := by
 have HM := κ hm
 have HU1 := κ h1
 have HU2 := κ h2
 have HU3 := κ h3
 obtain ⟨ao, ac, rfl, _, _⟩ := h1.form
 obtain ⟨bo, bc, rfl, _, _⟩ := h2.form
 obtain ⟨co, cc, rfl, _, _⟩ := h3.form
 have HQ := κ (fun wx => quote_c D (by omega) wx)
 have HC := κ (fun wx hx h1 h2 h3 => checkA_c D S U H n (.slice ao F.length ac) (.slice bo G.length bc) (.slice co P.length cc) F G P hD hS hH wx hx h1 h2 h3 hb1 hb2 hb3)
 have HU := κ (fun wx hx h1 h2 => printU_c S U H n (.slice ao F.length ac) (.slice bo G.length bc) F G hS hH hn0 hn1 wx hx h1 h2 hb1 hb2)
 have HT := κ (fun wx hx hv => text_c (.slice co P.length cc) P wx hx hv hb3)
 have hpr : printA (⟨us D, ⟨us S, us U, us H, n, F, G⟩, P⟩ : Adr) = if checkA (⟨us D, ⟨us S, us U, us H, n, F, G⟩, P⟩ : Adr) = 0 then (textA (⟨us D, ⟨us S, us U, us H, n, F, G⟩, P⟩ : Adr), 0) else ([], checkA (⟨us D, ⟨us S, us U, us H, n, F, G⟩, P⟩ : Adr)) := rfl
 have hpt := checkA_parts (⟨us D, ⟨us S, us U, us H, n, F, G⟩, P⟩ : Adr)
 have htx : textA (⟨us D, ⟨us S, us U, us H, n, F, G⟩, P⟩ : Adr) = nameT (us D) ++ 60 :: (textU ⟨us S, us U, us H, n, F, G⟩ ++ 62 :: (textS P).1) := rfl
 have hul := textU_le ⟨us S, us U, us H, n, F, G⟩
 have hpu : checkU ⟨us S, us U, us H, n, F, G⟩ = 0 → printU ⟨us S, us U, us H, n, F, G⟩ = (textU ⟨us S, us U, us H, n, F, G⟩, 0) := fun h => if_pos h
 have htl := textS_le P
 dsimp only at hpt
 obtain ⟨PA, hPA⟩ : ∃ C, C = printA (⟨us D, ⟨us S, us U, us H, n, F, G⟩, P⟩ : Adr) := ⟨_, rfl⟩
 rw [← hPA] at hpr ⊢
 obtain ⟨C, hC⟩ : ∃ C, C = checkA (⟨us D, ⟨us S, us U, us H, n, F, G⟩, P⟩ : Adr) := ⟨_, rfl⟩
 rw [← hC] at HC hpr hpt
 obtain ⟨TA, hTA⟩ : ∃ C, C = textA (⟨us D, ⟨us S, us U, us H, n, F, G⟩, P⟩ : Adr) := ⟨_, rfl⟩
 rw [← hTA] at hpr htx
 clear hPA hC hTA h1 h2 h3 hb1 hb2 hb3 hm
 have hB0 : Below w.heap.size w (w.alloc (.cells #[.string D, .string S, .string U, .string H, .int .i64 n, .slice ao F.length ac, .slice bo G.length bc, .slice co P.length cc] 26)) := (Below.refl _ _).alloc (ρ _) _
 have bm0 := Blk.new w 26 #[.string D, .string S, .string U, .string H, .int .i64 n, .slice ao F.length ac, .slice bo G.length bc, .slice co P.length cc]
 obtain ⟨w0, hw0⟩ : ∃ w0, w0 = w.alloc (.cells #[.string D, .string S, .string U, .string H, .int .i64 n, .slice ao F.length ac, .slice bo G.length bc, .slice co P.length cc] 26) := ⟨_, rfl⟩
 rw [← hw0] at hB0 bm0
 have HX := κ (fun (wx : World) (h : Below w0.heap.size w0 wx) => (show Blk wx w.heap.size 26 #[.string D, .string S, .string U, .string H, .int .i64 n, .slice ao F.length ac, .slice bo G.length bc, .slice co P.length cc] ∧ Below w.heap.size w wx ∧ Ml wx ∧ RPrms wx (.slice ao F.length ac) F ∧ RPrms wx (.slice bo G.length bc) G ∧ RPrms wx (.slice co P.length cc) P from by
  have hx := hB0.trans (h.mono hB0.size)
  exact ⟨bm0.call h, hx, HM.out.below hx, HU1.out.below hx (ρ _), HU2.out.below hx (ρ _), HU3.out.below hx (ρ _)⟩))
 have HW0 := κ hw0
 have hZ : Below w0.heap.size w0 w0 := Below.refl _ _
 obtain ⟨bm, hBB, hMM, hU1, hU2, hU3⟩ := HX.out _ hZ
 obtain ⟨p0, p1, p2, p3, p4, p5, p6, p7⟩ := blk_f8 bm
 clear hw0 bm0 hB0
 by_cases hc : C = 0
 case neg =>
  rw [if_neg hc] at hpr
  have t0 : (C != 0) = true := by simpa using hc
  have HPR := κ hpr
  clear hpr hpt htx hul hpu htl hc
  go_enter Tryz.func40, Tryz.ntmps40
  go_wp2_with (first | (go_at_call 36; (try rw [← HW0.out]); refine (HC.out _ hMM hU1 hU2 hU3).mono ?_; rintro e w1 ⟨rfl, hC1⟩; have hZ := hZ.trans (hC1.mono hZ.size); obtain ⟨bm, hBB, hMM, hU1, hU2, hU3⟩ := HX.out _ hZ; obtain ⟨p0, p1, p2, p3, p4, p5, p6, p7⟩ := blk_f8 bm) | (go_at_call 38; refine (HU.out _ hMM hU1 hU2).mono ?_; rintro e w2 ⟨rfl, hC2⟩; have hZ := hZ.trans (hC2.mono hZ.size); obtain ⟨bm, hBB, hMM, hU1, hU2, hU3⟩ := HX.out _ hZ; obtain ⟨p0, p1, p2, p3, p4, p5, p6, p7⟩ := blk_f8 bm) | (go_at_call 82; refine (HT.out _ hMM hU3).mono ?_; rintro e w3 ⟨rfl, hC3⟩; have hZ := hZ.trans (hC3.mono hZ.size); obtain ⟨bm, hBB, hMM, hU1, hU2, hU3⟩ := HX.out _ hZ; obtain ⟨p0, p1, p2, p3, p4, p5, p6, p7⟩ := blk_f8 bm) | (go_at_call 80; refine (HQ.out _).mono ?_; rintro e w4 ⟨rfl, hC4⟩; have hZ := hZ.trans (hC4.mono hZ.size); obtain ⟨bm, hBB, hMM, hU1, hU2, hU3⟩ := HX.out _ hZ; obtain ⟨p0, p1, p2, p3, p4, p5, p6, p7⟩ := blk_f8 bm))
  go_ret2
  exact ⟨ret_si (p := PA) (by rw [HPR.out]; rfl), hBB⟩
 obtain ⟨q0, d64, cu0, t0⟩ := hpt hc
 subst hc
 rw [if_pos rfl] at hpr
 have hul := hul cu0
 have hpu := hpu cu0
 have hqn := quote_le (us D)
 have hnm : nameT (us D) = if us D = [] then [] else (quote (us D)).1 ++ [32] := rfl
 rw [hpu] at HU
 rw [hnm] at htx
 have hdn : us D = [] ↔ D.size = 0 := by rw [← length_us, List.length_eq_zero_iff]
 rw [length_us] at d64 hqn
 obtain ⟨TU, hTU⟩ : ∃ x, x = bs (textU ⟨us S, us U, us H, n, F, G⟩) := ⟨_, rfl⟩
 have uTU : textU ⟨us S, us U, us H, n, F, G⟩ = us TU := by rw [hTU, us_bs]
 obtain ⟨TP, hTP⟩ : ∃ x, x = bs (textS P).1 := ⟨_, rfl⟩
 have uTP : (textS P).1 = us TP := by rw [hTP, us_bs]
 obtain ⟨QD, hQD⟩ : ∃ x, x = bs (quote (us D)).1 := ⟨_, rfl⟩
 have uQD : (quote (us D)).1 = us QD := by rw [hQD, us_bs]
 rw [← hTU] at HU
 rw [← hTP, t0] at HT
 rw [← hQD, q0] at HQ
 rw [uTU, length_us] at hul
 rw [uTP, length_us] at htl
 rw [uQD, length_us] at hqn
 rw [uTU, uTP, uQD] at htx
 have HPR := κ hpr
 clear hpr hpu hTU uTU hTP uTP hQD uQD hnm cu0 q0 t0
 by_cases hd : D.size = 0
 rw [if_pos (hdn.2 hd), List.nil_append] at htx
 have HTX := κ htx
 obtain rfl := eq_empty hd
 rotate_left
 rw [if_neg (fun h => hd (hdn.1 h))] at htx
 have HTX := κ htx
 have pE := ne_empty hd
 have pF := isEmpty_f hd
 rotate_left
 all_goals
  clear htx hd hdn
  go_enter Tryz.func40, Tryz.ntmps40
  go_wp2_with (first | (go_at_call 36; (try rw [← HW0.out]); refine (HC.out _ hMM hU1 hU2 hU3).mono ?_; rintro e w1 ⟨rfl, hC1⟩; have hZ := hZ.trans (hC1.mono hZ.size); obtain ⟨bm, hBB, hMM, hU1, hU2, hU3⟩ := HX.out _ hZ; obtain ⟨p0, p1, p2, p3, p4, p5, p6, p7⟩ := blk_f8 bm) | (go_at_call 38; refine (HU.out _ hMM hU1 hU2).mono ?_; rintro e w2 ⟨rfl, hC2⟩; have hZ := hZ.trans (hC2.mono hZ.size); obtain ⟨bm, hBB, hMM, hU1, hU2, hU3⟩ := HX.out _ hZ; obtain ⟨p0, p1, p2, p3, p4, p5, p6, p7⟩ := blk_f8 bm) | (go_at_call 82; refine (HT.out _ hMM hU3).mono ?_; rintro e w3 ⟨rfl, hC3⟩; have hZ := hZ.trans (hC3.mono hZ.size); obtain ⟨bm, hBB, hMM, hU1, hU2, hU3⟩ := HX.out _ hZ; obtain ⟨p0, p1, p2, p3, p4, p5, p6, p7⟩ := blk_f8 bm) | (go_at_call 80; refine (HQ.out _).mono ?_; rintro e w4 ⟨rfl, hC4⟩; have hZ := hZ.trans (hC4.mono hZ.size); obtain ⟨bm, hBB, hMM, hU1, hU2, hU3⟩ := HX.out _ hZ; obtain ⟨p0, p1, p2, p3, p4, p5, p6, p7⟩ := blk_f8 bm))
  go_ret2
  exact ⟨ret_si (p := PA) (by rw [HPR.out, HTX.out]; simp [us]), hBB⟩
section
open Go.RowKit
def cseqS (n : Int) (l : List UInt8) : List UInt8 × Int := if n < 0 ∨ 2147483647 < n ∨ token l = false then ([], 80) else (digits n ++ 32 :: l, 0)
end
section
open Go.RowKit
theorem cseqS_no (n : Int) (l : List UInt8) (h : n < 0 ∨ 2147483647 < n ∨ token l = false) : cseqS n l = ([], 80) := by
 unfold cseqS; rw [if_pos h]
theorem cseqS_yes (n : Int) (l : List UInt8) (h1 : ¬ n < 0) (h2 : ¬ 2147483647 < n) (h3 : token l = true) : cseqS n l = (digits n ++ 32 :: l, 0) := by
 unfold cseqS; rw [if_neg]; rintro (h | h | h)
 ·exact h1 h
 ·exact h2 h
 ·rw [h3] at h; cases h
theorem ret_spH {s : ByteArray} {n : Int} {p : List UInt8 × Int} (h : p = (us s, n)) : Ending.returned (.tuple #[.string s, .int .i64 n]) = .returned (.tuple #[.string (bs p.1), .int .i64 p.2]) := by
 rw [h]; simp
set_option maxHeartbeats 1600000 in
theorem cseq_c (n : Int) (n0 : -9223372036854775808 ≤ n) (n1 : n ≤ 9223372036854775807) (s : ByteArray) (hs : s.size ≤ 140737488351232) (w : World) :
  Calls Tryz.prog 37 #[.int .i64 n, .string s] w fun e w' => e = .returned (.tuple #[.string (bs (cseqS n (us s)).1), .int .i64 (cseqS n (us s)).2]) ∧ Below w.heap.size w w' := by
 have H1 := κ (fun wx => token_c s (by omega) wx)
 have H2 := κ (fun wx => digits_c n n0 n1 wx)
 have ld : (bs (digits n)).size ≤ 20 := by rw [size_bs]; exact digits_len n
 have HN := κ (cseqS_no n (us s))
 have HY := κ (cseqS_yes n (us s))
 have HL := κ (us_bs (digits n))
 obtain ⟨d, hd⟩ : ∃ d, d = bs (digits n) := ⟨_, rfl⟩
 rw [← hd] at H2 ld HL
 clear hd
 have hB : Below w.heap.size w w := Below.refl _ w
 have hcase : n < 0 ∨ (¬ n < 0 ∧ 2147483647 < n) ∨ (¬ n < 0 ∧ ¬ 2147483647 < n) := by omega
 have h20 : (⟨#[32]⟩ : ByteArray).size = 1 := rfl
 rcases hcase with h1 | ⟨h1, h2⟩ | ⟨h1, h2⟩
 ·have HX := κ (HN.out (.inl h1))
  go_enter Tryz.func37, Tryz.ntmps37
  go_wp2_with fail
  go_ret2
  exact ⟨ret_spH (by rw [HX.out]; rfl), hB⟩
 ·have HX := κ (HN.out (.inr (.inl h2)))
  go_enter Tryz.func37, Tryz.ntmps37
  go_wp2_with fail
  go_ret2
  exact ⟨ret_spH (by rw [HX.out]; rfl), hB⟩
 ·cases ht : token (us s)
  ·have HX := κ (HN.out (.inr (.inr ht)))
   rw [ht] at H1; clear ht
   go_enter Tryz.func37, Tryz.ntmps37
   go_wp2_with (go_at_call 31; refine (H1.out _).mono ?_; rintro e wx ⟨rfl, rfl⟩)
   go_ret2
   exact ⟨ret_spH (by rw [HX.out]; rfl), hB⟩
  ·have HX := κ (HY.out h1 h2 ht)
   rw [ht] at H1; clear ht
   go_enter Tryz.func37, Tryz.ntmps37
   go_wp2_with (first | (go_at_call 31; refine (H1.out _).mono ?_; rintro e wx ⟨rfl, rfl⟩) | (go_at_call 83; refine (H2.out _).mono ?_; rintro e wx ⟨rfl, hC⟩; replace hB := hB.trans (hC.mono hB.size)))
   go_ret2
   exact ⟨ret_spH (by rw [HX.out, us_append, us_append, HL.out]; simp [us]), hB⟩
end
end Go.Proofs.YtipdiddjhimdcaaGreatDoor
