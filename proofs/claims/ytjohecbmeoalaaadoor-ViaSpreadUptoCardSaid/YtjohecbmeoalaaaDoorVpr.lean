/-
  via.Check, Print, Branch, By; rosterref07.Check, Print, Branch, By, Same.
-/
import Derived.Test.YtjohecbmeoalaaaDoorVia
import Derived.Lib.QuietBelow
import Derived.BigQuiet
namespace Go.Proofs.YtjohecbmeoalaaaDoor
open Go.RowKit Go.Sort

def hv (v : Hop) (u : Value) : Value := .agg #[sv v.host, .int .i64 v.port, u]
theorem regrownV {W wq : World} (h : ∃ p : Regrown, wq = grow (redrawn W p.d) p.os) : Below W.heap.size W wq := by
  obtain ⟨p, rfl⟩ := h; exact below_regrown W p.d p.os
theorem checkV_cases (N : ByteArray) (x : Int) (F : List Prm) :
    (hostS (us N) = false ∧ checkV ⟨us N, x, F⟩ = 32) ∨ (hostS (us N) = true ∧ x < 0 ∧ checkV ⟨us N, x, F⟩ = 33) ∨ (hostS (us N) = true ∧ ¬ x < 0 ∧ 65535 < x ∧ checkV ⟨us N, x, F⟩ = 33) ∨
    (hostS (us N) = true ∧ ¬ x < 0 ∧ ¬ 65535 < x ∧ ((textS F).2 != 0) = true ∧ checkV ⟨us N, x, F⟩ = (textS F).2) ∨ (hostS (us N) = true ∧ ¬ x < 0 ∧ ¬ 65535 < x ∧ ((textS F).2 != 0) = false ∧ (textS F).2 = 0 ∧ checkV ⟨us N, x, F⟩ = 0) := by
  unfold checkV
  dsimp only
  cases hh : hostS (us N)
  · exact .inl ⟨rfl, rfl⟩
  · rw [if_neg (by decide)]
    by_cases h0 : x < 0
    · exact .inr (.inl ⟨rfl, h0, if_pos (.inl h0)⟩)
    · by_cases h1 : 65535 < x
      · exact .inr (.inr (.inl ⟨rfl, h0, h1, if_pos (.inr h1)⟩))
      · rw [if_neg (by rintro (h | h); exact h0 h; exact h1 h)]
        cases ht : ((textS F).2 != 0)
        · have : (textS F).2 = 0 := by simpa using ht
          exact .inr (.inr (.inr (.inr ⟨rfl, h0, h1, rfl, this, this⟩)))
        · exact .inr (.inr (.inr (.inl ⟨rfl, h0, h1, rfl, rfl⟩)))
/-- the box of a hop, behind a call -/
theorem boxV {w w1 : World} {a b c : Value} {t : TypeId} (hC : Below (w.alloc (.cells #[a, b, c] t)).heap.size (w.alloc (.cells #[a, b, c] t)) w1) : Blk w1 w.heap.size t #[a, b, c] ∧ Below w.heap.size w w1 := by
  refine ⟨(Blk.new w t #[a, b, c]).call hC, ((Below.refl _ _).alloc (Nat.le_refl _) _).trans (hC.mono ?_)⟩
  rw [World.size_alloc]; omega

set_option maxHeartbeats 1600000 in
theorem checkV_c (N : ByteArray) (x : Int) (u : Value) (F : List Prm) (hN : N.size ≤ 4294967280) (w : World) (hm : Ml w) (hu : RPrms w u F) (hbd : ∀ p ∈ F, p.name.length ≤ 4294967280 ∧ p.value.length ≤ 4294967280) :
    Calls Tryd.prog 20 #[.agg #[.string N, .int .i64 x, u]] w fun e w' => e = .returned (.int .i64 (checkV ⟨us N, x, F⟩)) ∧ Below w.heap.size w w' := by
  have HM := Lib.hid hm
  clear hm
  have HU := Lib.hid hu
  obtain ⟨ao, cap, rfl, _, _⟩ := hu.form
  clear hu
  have HT := Lib.hid (fun wx hx hv => text_c (.slice ao F.length cap) F wx hx hv hbd)
  have HH := Lib.hid (fun wx hx => host_c N hN wx hx)
  have hcs := checkV_cases N x F
  obtain ⟨tx, htx⟩ : ∃ t, t = textS F := ⟨_, rfl⟩
  rw [← htx] at HT hcs
  clear htx hbd
  obtain ⟨ts, te⟩ := tx
  dsimp only at HT hcs
  obtain ⟨C, hC⟩ : ∃ C, C = checkV ⟨us N, x, F⟩ := ⟨_, rfl⟩
  rw [← hC] at hcs ⊢
  clear hC
  have hB0 : Below w.heap.size w (w.alloc (.cells #[.string N, .int .i64 x, .slice ao F.length cap] 25)) := ((Below.refl _ _).alloc (Nat.le_refl _) _)
  have bm := Blk.new w 25 #[.string N, .int .i64 x, .slice ao F.length cap]
  obtain ⟨w0, hw0⟩ : ∃ w0, w0 = w.alloc (.cells #[.string N, .int .i64 x, .slice ao F.length cap] 25) := ⟨_, rfl⟩
  rw [← hw0] at hB0 bm
  have HW0 := Lib.hid hw0
  clear hw0
  rcases hcs with ⟨h1, rfl⟩ | ⟨h1, h2, rfl⟩ | ⟨h1, h2, h3, rfl⟩ | ⟨h1, h2, h3, h4, rfl⟩ | ⟨h1, h2, h3, h4, _, rfl⟩
  all_goals
    rw [h1] at HH
    clear h1
    go_enter Tryd.func20, Tryd.ntmps20
    go_wp2_with (first | (go_at_call 40; (try rw [← HW0.out]); refine (HT.out _ (HM.out.below hB0) (HU.out.below hB0 (Nat.le_refl _))).mono ?_; rintro e w1 ⟨rfl, hC1⟩; have bm := bm.call hC1; obtain ⟨p0, p1, p2, _, _, _, _⟩ := bm.f3; have hZ := hB0.trans (hC1.mono hB0.size)) | (go_at_call 47; refine (HH.out _ (HM.out.below hZ)).mono ?_; rintro e w2 ⟨rfl, hC2⟩; have bm := bm.call hC2; obtain ⟨p0, p1, p2, _, _, _, _⟩ := bm.f3; have hZ2 := hZ.trans (hC2.mono hZ.size)))
    go_ret
    exact ⟨rfl, hZ2⟩

set_option maxHeartbeats 1600000 in
theorem checkVR_c (N : ByteArray) (x : Int) (u : Value) (F : List Prm) (hN : N.size ≤ 4294967280) (w : World) (hu : RPrms w u F) (hbd : ∀ p ∈ F, p.name.length ≤ 4294967280 ∧ p.value.length ≤ 4294967280) :
    Calls Tryd.prog 21 #[.agg #[.string N, .int .i64 x, u]] w fun e w' => e = .returned (.int .i64 (checkV ⟨us N, x, F⟩)) ∧ Below w.heap.size w w' := by
  have HU := Lib.hid hu
  obtain ⟨ao, cap, rfl, _, _⟩ := hu.form
  clear hu
  have HT := Lib.hid (fun wx hv => textR_c (.slice ao F.length cap) F wx hv hbd)
  have HH := Lib.hid (fun wx => hostR_c N hN wx)
  have hcs := checkV_cases N x F
  obtain ⟨tx, htx⟩ : ∃ t, t = textS F := ⟨_, rfl⟩
  rw [← htx] at HT hcs
  clear htx hbd
  obtain ⟨ts, te⟩ := tx
  dsimp only at HT hcs
  obtain ⟨C, hC⟩ : ∃ C, C = checkV ⟨us N, x, F⟩ := ⟨_, rfl⟩
  rw [← hC] at hcs ⊢
  clear hC
  have hB0 : Below w.heap.size w (w.alloc (.cells #[.string N, .int .i64 x, .slice ao F.length cap] 25)) := ((Below.refl _ _).alloc (Nat.le_refl _) _)
  have bm := Blk.new w 25 #[.string N, .int .i64 x, .slice ao F.length cap]
  obtain ⟨w0, hw0⟩ : ∃ w0, w0 = w.alloc (.cells #[.string N, .int .i64 x, .slice ao F.length cap] 25) := ⟨_, rfl⟩
  rw [← hw0] at hB0 bm
  have HW0 := Lib.hid hw0
  clear hw0
  rcases hcs with ⟨h1, rfl⟩ | ⟨h1, h2, rfl⟩ | ⟨h1, h2, h3, rfl⟩ | ⟨h1, h2, h3, h4, rfl⟩ | ⟨h1, h2, h3, h4, _, rfl⟩
  all_goals
    rw [h1] at HH
    clear h1
    go_enter Tryd.func21, Tryd.ntmps21
    go_wp2_with (first | (go_at_call 48; (try rw [← HW0.out]); refine (HH.out _).mono ?_; rintro e w1 ⟨rfl, hC1⟩; have bm := bm.call hC1; obtain ⟨p0, p1, p2, _, _, _, _⟩ := bm.f3; have hZ2 := hB0.trans (hC1.mono hB0.size)) | (go_at_call 43; refine (HT.out _ (HU.out.below hZ2 (Nat.le_refl _))).mono ?_; rintro e w2 ⟨rfl, hC2⟩; have bm := bm.call hC2; obtain ⟨p0, p1, p2, _, _, _, _⟩ := bm.f3; have hZ3 := hZ2.trans (hC2.mono hZ2.size)))
    go_ret
    exact ⟨by first | rfl | simp_all, by first | exact hZ3 | exact hZ2⟩

theorem ret_sp {s : ByteArray} {n : Int} {l : List UInt8} (h : us s = l) : Ending.returned (.tuple #[.string s, .int .i64 n]) = .returned (.tuple #[.string (bs l), .int .i64 n]) := by rw [← h, bs_us]

set_option maxHeartbeats 3200000 in
theorem printV_c (N : ByteArray) (x : Int) (u : Value) (F : List Prm) (hN : N.size ≤ 4294967280) (hx0 : -9223372036854775808 ≤ x) (hx1 : x ≤ 9223372036854775807) (w : World) (hm : Ml w) (hu : RPrms w u F) (hbd : ∀ p ∈ F, p.name.length ≤ 4294967280 ∧ p.value.length ≤ 4294967280) :
    Calls Tryd.prog 16 #[.agg #[.string N, .int .i64 x, u]] w fun e w' => e = .returned (.tuple #[.string (bs (printV ⟨us N, x, F⟩).1), .int .i64 (printV ⟨us N, x, F⟩).2]) ∧ Below w.heap.size w w' := by
  have HM := Lib.hid hm
  clear hm
  have HU := Lib.hid hu
  obtain ⟨ao, cap, rfl, _, _⟩ := hu.form
  clear hu
  have HC := Lib.hid (fun wx hx hv => checkV_c N x (.slice ao F.length cap) F hN wx hx hv hbd)
  have HT := Lib.hid (fun wx hx hv => text_c (.slice ao F.length cap) F wx hx hv hbd)
  have HD := Lib.hid (fun wx => digits_c x hx0 hx1 wx)
  have hpc : (checkV ⟨us N, x, F⟩ ≠ 0 ∧ printV ⟨us N, x, F⟩ = ([], checkV ⟨us N, x, F⟩)) ∨ (checkV ⟨us N, x, F⟩ = 0 ∧ N.size ≤ 64 ∧ printV ⟨us N, x, F⟩ = (textV ⟨us N, x, F⟩, 0) ∧ 0 ≤ x ∧ x ≤ 65535) := by
    unfold printV
    by_cases h : checkV ⟨us N, x, F⟩ = 0
    · obtain ⟨h1, h2, h3, _⟩ := check_parts _ h
      exact .inr ⟨h, by rw [← length_us]; exact (host_low _ h1).2.2, if_pos h, h2, h3⟩
    · exact .inl ⟨h, if_neg h⟩
  obtain ⟨PV, hPV⟩ : ∃ PV, PV = printV ⟨us N, x, F⟩ := ⟨_, rfl⟩
  rw [← hPV] at hpc ⊢
  clear hPV
  obtain ⟨C, hC⟩ : ∃ C, C = checkV ⟨us N, x, F⟩ := ⟨_, rfl⟩
  rw [← hC] at HC hpc
  clear hC
  have htl := textS_le F
  obtain ⟨TV, hTV⟩ : ∃ TV, TV = bs (textS F).1 := ⟨_, rfl⟩
  have uTV : (textS F).1 = us TV := by rw [hTV, us_bs]
  have sTV : TV.size ≤ 3200 := by rw [hTV, size_bs]; exact htl
  rw [← hTV] at HT
  obtain ⟨te, hte⟩ : ∃ te, te = (textS F).2 := ⟨_, rfl⟩
  rw [← hte] at HT
  clear hte hTV htl hbd
  have hB0 : Below w.heap.size w (w.alloc (.cells #[.string N, .int .i64 x, .slice ao F.length cap] 25)) := (Below.refl _ _).alloc (Nat.le_refl _) _
  have bm := Blk.new w 25 #[.string N, .int .i64 x, .slice ao F.length cap]
  obtain ⟨w0, hw0⟩ : ∃ w0, w0 = w.alloc (.cells #[.string N, .int .i64 x, .slice ao F.length cap] 25) := ⟨_, rfl⟩
  rw [← hw0] at hB0 bm
  have HW0 := Lib.hid hw0
  clear hw0
  rcases hpc with ⟨c0, rfl⟩ | ⟨c0, n64, rfl, x0, x1⟩
  · have t0 : (C != 0) = true := by simpa using c0
    clear c0
    go_enter Tryd.func16, Tryd.ntmps16
    go_wp2_with (first | (go_at_call 20; rw [← HW0.out]; refine (HC.out _ (HM.out.below hB0) (HU.out.below hB0 (Nat.le_refl _))).mono ?_; rintro e w1 ⟨rfl, hC1⟩; have bm := bm.call hC1; obtain ⟨p0, p1, p2, _, _, _, _⟩ := bm.f3; have hZ := hB0.trans (hC1.mono hB0.size)) | (go_at_call 20; refine (HC.out _ (HM.out.below hZ) (HU.out.below hZ (Nat.le_refl _))).mono ?_; rintro e w9 ⟨rfl, hC9⟩; have hZ := hZ.trans (hC9.mono hZ.size)) | (go_at_call 40; refine (HT.out _ (HM.out.below hZ) (HU.out.below hZ (Nat.le_refl _))).mono ?_; rintro e w2 ⟨rfl, hC2⟩; have bm := bm.call hC2; obtain ⟨p0, p1, p2, _, _, _, _⟩ := bm.f3; have hZ := hZ.trans (hC2.mono hZ.size)) | (go_at_call 41; refine (HD.out _).mono ?_; rintro e w3 ⟨rfl, hC3⟩; have bm := bm.call hC3; obtain ⟨p0, p1, p2, _, _, _, _⟩ := bm.f3; have hZ := hZ.trans (hC3.mono hZ.size)))
    go_ret2
    exact ⟨rfl, hZ⟩
  · subst c0
    by_cases hp : 0 < x
    · have ht : textV ⟨us N, x, F⟩ = nProto ++ 32 :: (us N ++ (58 :: digits x ++ us TV)) := by
        unfold textV portT; dsimp only; rw [if_pos hp, uTV]
      have hdl := portT_len x
      unfold portT at hdl
      rw [if_pos hp, List.length_cons] at hdl
      obtain ⟨D, hD⟩ : ∃ D, D = bs (digits x) := ⟨_, rfl⟩
      have uD : digits x = us D := by rw [hD, us_bs]
      have sD : D.size ≤ 21 := by rw [hD, size_bs]; omega
      rw [uD] at ht
      rw [← hD] at HD
      have HTX := Lib.hid ht
      have x2 : (x != 0) = true := by simp; omega
      clear ht hdl hD uD uTV
      go_enter Tryd.func16, Tryd.ntmps16
      go_wp2_with (first | (go_at_call 20; rw [← HW0.out]; refine (HC.out _ (HM.out.below hB0) (HU.out.below hB0 (Nat.le_refl _))).mono ?_; rintro e w1 ⟨rfl, hC1⟩; have bm := bm.call hC1; obtain ⟨p0, p1, p2, _, _, _, _⟩ := bm.f3; have hZ := hB0.trans (hC1.mono hB0.size)) | (go_at_call 20; refine (HC.out _ (HM.out.below hZ) (HU.out.below hZ (Nat.le_refl _))).mono ?_; rintro e w9 ⟨rfl, hC9⟩; have hZ := hZ.trans (hC9.mono hZ.size)) | (go_at_call 40; refine (HT.out _ (HM.out.below hZ) (HU.out.below hZ (Nat.le_refl _))).mono ?_; rintro e w2 ⟨rfl, hC2⟩; have bm := bm.call hC2; obtain ⟨p0, p1, p2, _, _, _, _⟩ := bm.f3; have hZ := hZ.trans (hC2.mono hZ.size)) | (go_at_call 41; refine (HD.out _).mono ?_; rintro e w3 ⟨rfl, hC3⟩; have bm := bm.call hC3; obtain ⟨p0, p1, p2, _, _, _, _⟩ := bm.f3; have hZ := hZ.trans (hC3.mono hZ.size)))
      go_ret2
      exact ⟨ret_sp (by rw [HTX.out]; simp [us, nProto]) , hZ⟩
    · have ht : textV ⟨us N, x, F⟩ = nProto ++ 32 :: (us N ++ us TV) := by
        unfold textV portT; dsimp only; rw [if_neg hp, uTV, List.nil_append]
      have HTX := Lib.hid ht
      have x2 : (x != 0) = false := by simp; omega
      clear ht uTV
      go_enter Tryd.func16, Tryd.ntmps16
      go_wp2_with (first | (go_at_call 20; rw [← HW0.out]; refine (HC.out _ (HM.out.below hB0) (HU.out.below hB0 (Nat.le_refl _))).mono ?_; rintro e w1 ⟨rfl, hC1⟩; have bm := bm.call hC1; obtain ⟨p0, p1, p2, _, _, _, _⟩ := bm.f3; have hZ := hB0.trans (hC1.mono hB0.size)) | (go_at_call 20; refine (HC.out _ (HM.out.below hZ) (HU.out.below hZ (Nat.le_refl _))).mono ?_; rintro e w9 ⟨rfl, hC9⟩; have hZ := hZ.trans (hC9.mono hZ.size)) | (go_at_call 40; refine (HT.out _ (HM.out.below hZ) (HU.out.below hZ (Nat.le_refl _))).mono ?_; rintro e w2 ⟨rfl, hC2⟩; have bm := bm.call hC2; obtain ⟨p0, p1, p2, _, _, _, _⟩ := bm.f3; have hZ := hZ.trans (hC2.mono hZ.size)) | (go_at_call 41; refine (HD.out _).mono ?_; rintro e w3 ⟨rfl, hC3⟩; have bm := bm.call hC3; obtain ⟨p0, p1, p2, _, _, _, _⟩ := bm.f3; have hZ := hZ.trans (hC3.mono hZ.size)))
      go_ret2
      exact ⟨ret_sp (by rw [HTX.out]; simp [us, nProto]), hZ⟩

set_option maxHeartbeats 3200000 in
theorem printVR_c (N : ByteArray) (x : Int) (u : Value) (F : List Prm) (hN : N.size ≤ 4294967280) (hx0 : -9223372036854775808 ≤ x) (hx1 : x ≤ 9223372036854775807) (w : World) (hu : RPrms w u F) (hbd : ∀ p ∈ F, p.name.length ≤ 4294967280 ∧ p.value.length ≤ 4294967280) :
    Calls Tryd.prog 17 #[.agg #[.string N, .int .i64 x, u]] w fun e w' => e = .returned (.tuple #[.string (bs (printV ⟨us N, x, F⟩).1), .int .i64 (printV ⟨us N, x, F⟩).2]) ∧ Below w.heap.size w w' := by
  have HU := Lib.hid hu
  obtain ⟨ao, cap, rfl, _, _⟩ := hu.form
  clear hu
  have HC := Lib.hid (fun wx hv => checkVR_c N x (.slice ao F.length cap) F hN wx hv hbd)
  have HT := Lib.hid (fun wx hv => textR_c (.slice ao F.length cap) F wx hv hbd)
  have HD := Lib.hid (fun wx => digitsR_c x hx0 hx1 wx)
  have hpc : (checkV ⟨us N, x, F⟩ ≠ 0 ∧ printV ⟨us N, x, F⟩ = ([], checkV ⟨us N, x, F⟩)) ∨ (checkV ⟨us N, x, F⟩ = 0 ∧ N.size ≤ 64 ∧ printV ⟨us N, x, F⟩ = (textV ⟨us N, x, F⟩, 0) ∧ 0 ≤ x ∧ x ≤ 65535) := by
    unfold printV
    by_cases h : checkV ⟨us N, x, F⟩ = 0
    · obtain ⟨h1, h2, h3, _⟩ := check_parts _ h
      exact .inr ⟨h, by rw [← length_us]; exact (host_low _ h1).2.2, if_pos h, h2, h3⟩
    · exact .inl ⟨h, if_neg h⟩
  obtain ⟨PV, hPV⟩ : ∃ PV, PV = printV ⟨us N, x, F⟩ := ⟨_, rfl⟩
  rw [← hPV] at hpc ⊢
  clear hPV
  obtain ⟨C, hC⟩ : ∃ C, C = checkV ⟨us N, x, F⟩ := ⟨_, rfl⟩
  rw [← hC] at HC hpc
  clear hC
  have htl := textS_le F
  obtain ⟨TV, hTV⟩ : ∃ TV, TV = bs (textS F).1 := ⟨_, rfl⟩
  have uTV : (textS F).1 = us TV := by rw [hTV, us_bs]
  have sTV : TV.size ≤ 3200 := by rw [hTV, size_bs]; exact htl
  rw [← hTV] at HT
  obtain ⟨te, hte⟩ : ∃ te, te = (textS F).2 := ⟨_, rfl⟩
  rw [← hte] at HT
  clear hte hTV htl hbd
  have hB0 : Below w.heap.size w (w.alloc (.cells #[.string N, .int .i64 x, .slice ao F.length cap] 25)) := (Below.refl _ _).alloc (Nat.le_refl _) _
  have bm := Blk.new w 25 #[.string N, .int .i64 x, .slice ao F.length cap]
  obtain ⟨w0, hw0⟩ : ∃ w0, w0 = w.alloc (.cells #[.string N, .int .i64 x, .slice ao F.length cap] 25) := ⟨_, rfl⟩
  rw [← hw0] at hB0 bm
  have HW0 := Lib.hid hw0
  clear hw0
  rcases hpc with ⟨c0, rfl⟩ | ⟨c0, n64, rfl, x0, x1⟩
  · have t0 : (C != 0) = true := by simpa using c0
    clear c0
    go_enter Tryd.func17, Tryd.ntmps17
    go_wp2_with (first | (go_at_call 21; rw [← HW0.out]; refine (HC.out _ (HU.out.below hB0 (Nat.le_refl _))).mono ?_; rintro e w1 ⟨rfl, hC1⟩; have bm := bm.call hC1; obtain ⟨p0, p1, p2, _, _, _, _⟩ := bm.f3; have hZ := hB0.trans (hC1.mono hB0.size)) | (go_at_call 21; refine (HC.out _ (HU.out.below hZ (Nat.le_refl _))).mono ?_; rintro e w9 ⟨rfl, hC9⟩; have hZ := hZ.trans (hC9.mono hZ.size)) | (go_at_call 43; refine (HT.out _ (HU.out.below hZ (Nat.le_refl _))).mono ?_; rintro e w2 ⟨rfl, hC2⟩; have bm := bm.call hC2; obtain ⟨p0, p1, p2, _, _, _, _⟩ := bm.f3; have hZ := hZ.trans (hC2.mono hZ.size)) | (go_at_call 42; refine (HD.out _).mono ?_; rintro e w3 ⟨rfl, hC3⟩; have bm := bm.call hC3.below; obtain ⟨p0, p1, p2, _, _, _, _⟩ := bm.f3; have hZ := hZ.trans (hC3.below.mono hZ.size)))
    go_ret2
    exact ⟨rfl, hZ⟩
  · subst c0
    by_cases hp : 0 < x
    · have ht : textV ⟨us N, x, F⟩ = nProto ++ 32 :: (us N ++ (58 :: digits x ++ us TV)) := by
        unfold textV portT; dsimp only; rw [if_pos hp, uTV]
      have hdl := portT_len x
      unfold portT at hdl
      rw [if_pos hp, List.length_cons] at hdl
      obtain ⟨D, hD⟩ : ∃ D, D = bs (digits x) := ⟨_, rfl⟩
      have uD : digits x = us D := by rw [hD, us_bs]
      have sD : D.size ≤ 21 := by rw [hD, size_bs]; omega
      rw [uD] at ht
      rw [← hD] at HD
      have HTX := Lib.hid ht
      have x2 : (x != 0) = true := by simp; omega
      clear ht hdl hD uD uTV
      go_enter Tryd.func17, Tryd.ntmps17
      go_wp2_with (first | (go_at_call 21; rw [← HW0.out]; refine (HC.out _ (HU.out.below hB0 (Nat.le_refl _))).mono ?_; rintro e w1 ⟨rfl, hC1⟩; have bm := bm.call hC1; obtain ⟨p0, p1, p2, _, _, _, _⟩ := bm.f3; have hZ := hB0.trans (hC1.mono hB0.size)) | (go_at_call 21; refine (HC.out _ (HU.out.below hZ (Nat.le_refl _))).mono ?_; rintro e w9 ⟨rfl, hC9⟩; have hZ := hZ.trans (hC9.mono hZ.size)) | (go_at_call 43; refine (HT.out _ (HU.out.below hZ (Nat.le_refl _))).mono ?_; rintro e w2 ⟨rfl, hC2⟩; have bm := bm.call hC2; obtain ⟨p0, p1, p2, _, _, _, _⟩ := bm.f3; have hZ := hZ.trans (hC2.mono hZ.size)) | (go_at_call 42; refine (HD.out _).mono ?_; rintro e w3 ⟨rfl, hC3⟩; have bm := bm.call hC3.below; obtain ⟨p0, p1, p2, _, _, _, _⟩ := bm.f3; have hZ := hZ.trans (hC3.below.mono hZ.size)))
      go_ret2
      exact ⟨ret_sp (by rw [HTX.out]; simp [us, nProto]) , hZ⟩
    · have ht : textV ⟨us N, x, F⟩ = nProto ++ 32 :: (us N ++ us TV) := by
        unfold textV portT; dsimp only; rw [if_neg hp, uTV, List.nil_append]
      have HTX := Lib.hid ht
      have x2 : (x != 0) = false := by simp; omega
      clear ht uTV
      go_enter Tryd.func17, Tryd.ntmps17
      go_wp2_with (first | (go_at_call 21; rw [← HW0.out]; refine (HC.out _ (HU.out.below hB0 (Nat.le_refl _))).mono ?_; rintro e w1 ⟨rfl, hC1⟩; have bm := bm.call hC1; obtain ⟨p0, p1, p2, _, _, _, _⟩ := bm.f3; have hZ := hB0.trans (hC1.mono hB0.size)) | (go_at_call 21; refine (HC.out _ (HU.out.below hZ (Nat.le_refl _))).mono ?_; rintro e w9 ⟨rfl, hC9⟩; have hZ := hZ.trans (hC9.mono hZ.size)) | (go_at_call 43; refine (HT.out _ (HU.out.below hZ (Nat.le_refl _))).mono ?_; rintro e w2 ⟨rfl, hC2⟩; have bm := bm.call hC2; obtain ⟨p0, p1, p2, _, _, _, _⟩ := bm.f3; have hZ := hZ.trans (hC2.mono hZ.size)) | (go_at_call 42; refine (HD.out _).mono ?_; rintro e w3 ⟨rfl, hC3⟩; have bm := bm.call hC3.below; obtain ⟨p0, p1, p2, _, _, _, _⟩ := bm.f3; have hZ := hZ.trans (hC3.below.mono hZ.size)))
      go_ret2
      exact ⟨ret_sp (by rw [HTX.out]; simp [us, nProto]), hZ⟩

theorem prefixC_c (s : ByteArray) (w : World) :
    Calls Tryd.prog 45 #[.string s, .string ⟨#[122, 57, 104, 71, 52, 98, 75]⟩] w fun e w' => e = .returned (.bool (nCookie.isPrefixOf (us s))) ∧ w = w' := by
  refine (Tryd.strings_HasPrefix s ⟨#[122, 57, 104, 71, 52, 98, 75]⟩ w).mono ?_
  rintro e w' ⟨rfl, rfl⟩
  exact ⟨rfl, rfl⟩
theorem branch_cases (B : ByteArray) : (nCookie.isPrefixOf (us B) = false ∧ (B.size ≤ 7 ∨ (7 < B.size ∧ (B.extract 0 7).toList ≠ nCookie))) ∨ (nCookie.isPrefixOf (us B) = true ∧ B.size = 7) ∨
    (nCookie.isPrefixOf (us B) = true ∧ 7 < B.size ∧ (B.extract 0 7).toList = nCookie) := by
  have e : (B.extract 0 7).toList = (us B).take 7 := by rw [toList_us, us_extract]; rfl
  rw [e]
  have hl : (us B).length = B.size := length_us B
  cases h : nCookie.isPrefixOf (us B)
  · refine .inl ⟨rfl, ?_⟩
    by_cases h7 : B.size ≤ 7
    · exact .inl h7
    · refine .inr ⟨by omega, fun e => ?_⟩
      have : nCookie.isPrefixOf (us B) = true := by
        rw [List.isPrefixOf_iff_prefix]; rw [← e]; exact List.take_prefix 7 (us B)
      rw [h] at this; cases this
  · have hp := List.isPrefixOf_iff_prefix.1 h
    have h3 := hp.length_le
    rw [hl] at h3
    have h4 : nCookie.length = 7 := rfl
    by_cases h7 : B.size = 7
    · exact .inr (.inl ⟨rfl, h7⟩)
    · refine .inr (.inr ⟨rfl, by omega, ?_⟩)
      have := List.prefix_iff_eq_take.1 hp
      rw [h4] at this; exact this.symm

set_option maxHeartbeats 1600000 in
theorem branchV_c (N : ByteArray) (x : Int) (u : Value) (F : List Prm) (w : World) (hu : RPrms w u F) (hbd : ∀ p ∈ F, p.name.length ≤ 4294967280) (hbv : (value F nBranch).1.length ≤ 4294967280) :
    Calls Tryd.prog 18 #[.agg #[.string N, .int .i64 x, u]] w fun e w' => e = .returned (.tuple #[.string (bs (branchV ⟨us N, x, F⟩).1), .bool (branchV ⟨us N, x, F⟩).2]) ∧ Below w.heap.size w w' := by
  have HU := Lib.hid hu
  obtain ⟨ao, cap, rfl, _, _⟩ := hu.form
  clear hu
  have HV := Lib.hid (fun wx hv => value_c (.slice ao F.length cap) F ⟨#[98, 114, 97, 110, 99, 104]⟩ (by decide) wx hv (fun p hp => by have := hbd p hp; omega))
  rw [show us ⟨#[98, 114, 97, 110, 99, 104]⟩ = nBranch from rfl] at HV
  have hbr : branchV ⟨us N, x, F⟩ = if (nCookie.isPrefixOf (value F nBranch).1 && decide (7 < (value F nBranch).1.length)) = true then ((value F nBranch).1, true) else ([], false) := rfl
  obtain ⟨q, hq⟩ : ∃ q, q = value F nBranch := ⟨_, rfl⟩
  rw [← hq] at HV hbr hbv
  clear hq hbd
  obtain ⟨b, ok⟩ := q
  dsimp only at HV hbr hbv
  obtain ⟨B, hB⟩ : ∃ B, B = bs b := ⟨_, rfl⟩
  have uB : b = us B := by rw [hB, us_bs]
  subst uB
  rw [← hB] at HV
  rw [length_us] at hbr hbv
  have hcs := branch_cases B
  have HX := Lib.hid (fun wx => prefixC_c B wx)
  obtain ⟨Q, hQ⟩ : ∃ Q, Q = branchV ⟨us N, x, F⟩ := ⟨_, rfl⟩
  rw [← hQ] at hbr ⊢
  clear hQ hB
  have hB0 : Below w.heap.size w (w.alloc (.cells #[.string N, .int .i64 x, .slice ao F.length cap] 25)) := (Below.refl _ _).alloc (Nat.le_refl _) _
  obtain ⟨w0, hw0⟩ : ∃ w0, w0 = w.alloc (.cells #[.string N, .int .i64 x, .slice ao F.length cap] 25) := ⟨_, rfl⟩
  rw [← hw0] at hB0
  have HW0 := Lib.hid hw0
  clear hw0
  rcases hcs with ⟨h1, _⟩ | ⟨h1, h2⟩ | ⟨h1, h2, _⟩
  · rw [h1] at HX hbr
    obtain rfl : Q = ([], false) := by exact hbr
    clear h1 hbr
    go_enter Tryd.func18, Tryd.ntmps18
    go_wp2_with (first | (go_at_call 44; rw [← HW0.out]; refine (HV.out _ (HU.out.below hB0 (Nat.le_refl _))).mono ?_; rintro e w1 ⟨rfl, hC1⟩; have hZ := hB0.trans (hC1.mono hB0.size)) | (go_at_call 45; refine (HX.out _).mono ?_; rintro e w2 ⟨rfl, rfl⟩))
    go_ret2
    exact ⟨by first | rfl | (dsimp only; rw [bs_us]), hZ⟩
  · rw [h1] at HX hbr
    obtain rfl : Q = ([], false) := by rw [hbr, h2]; rfl
    have t2 : ((B.size : Int) == 7) = true := by rw [h2]; rfl
    clear h1 h2 hbr
    go_enter Tryd.func18, Tryd.ntmps18
    go_wp2_with (first | (go_at_call 44; rw [← HW0.out]; refine (HV.out _ (HU.out.below hB0 (Nat.le_refl _))).mono ?_; rintro e w1 ⟨rfl, hC1⟩; have hZ := hB0.trans (hC1.mono hB0.size)) | (go_at_call 45; refine (HX.out _).mono ?_; rintro e w2 ⟨rfl, rfl⟩))
    go_ret2
    exact ⟨by first | rfl | (dsimp only; rw [bs_us]), hZ⟩
  · rw [h1] at HX hbr
    obtain rfl : Q = (us B, true) := by rw [hbr]; simp [h2]
    have t2 : ((B.size : Int) == 7) = false := by rw [beq_eq_false_iff_ne]; omega
    clear h1 h2 hbr
    go_enter Tryd.func18, Tryd.ntmps18
    go_wp2_with (first | (go_at_call 44; rw [← HW0.out]; refine (HV.out _ (HU.out.below hB0 (Nat.le_refl _))).mono ?_; rintro e w1 ⟨rfl, hC1⟩; have hZ := hB0.trans (hC1.mono hB0.size)) | (go_at_call 45; refine (HX.out _).mono ?_; rintro e w2 ⟨rfl, rfl⟩))
    go_ret2
    exact ⟨by first | rfl | (dsimp only; rw [bs_us]), hZ⟩

set_option maxHeartbeats 1600000 in
theorem branchVR_c (N : ByteArray) (x : Int) (u : Value) (F : List Prm) (w : World) (hu : RPrms w u F) (hbd : ∀ p ∈ F, p.name.length ≤ 4294967280) (hbv : (value F nBranch).1.length ≤ 4294967280) :
    Calls Tryd.prog 19 #[.agg #[.string N, .int .i64 x, u]] w fun e w' => e = .returned (.tuple #[.string (bs (branchV ⟨us N, x, F⟩).1), .bool (branchV ⟨us N, x, F⟩).2]) ∧ Below w.heap.size w w' := by
  have HU := Lib.hid hu
  obtain ⟨ao, cap, rfl, _, _⟩ := hu.form
  clear hu
  have HV := Lib.hid (fun wx hv => valueR_c (.slice ao F.length cap) F ⟨#[98, 114, 97, 110, 99, 104]⟩ (by decide) wx hv (fun p hp => by have := hbd p hp; omega))
  rw [show us ⟨#[98, 114, 97, 110, 99, 104]⟩ = nBranch from rfl] at HV
  have hbr : branchV ⟨us N, x, F⟩ = if (nCookie.isPrefixOf (value F nBranch).1 && decide (7 < (value F nBranch).1.length)) = true then ((value F nBranch).1, true) else ([], false) := rfl
  obtain ⟨q, hq⟩ : ∃ q, q = value F nBranch := ⟨_, rfl⟩
  rw [← hq] at HV hbr hbv
  clear hq hbd
  obtain ⟨b, ok⟩ := q
  dsimp only at HV hbr hbv
  obtain ⟨B, hB⟩ : ∃ B, B = bs b := ⟨_, rfl⟩
  have uB : b = us B := by rw [hB, us_bs]
  subst uB
  rw [← hB] at HV
  rw [length_us] at hbr hbv
  have hcs := branch_cases B
  obtain ⟨Q, hQ⟩ : ∃ Q, Q = branchV ⟨us N, x, F⟩ := ⟨_, rfl⟩
  rw [← hQ] at hbr ⊢
  clear hQ hB
  have hB0 : Below w.heap.size w (w.alloc (.cells #[.string N, .int .i64 x, .slice ao F.length cap] 25)) := (Below.refl _ _).alloc (Nat.le_refl _) _
  obtain ⟨w0, hw0⟩ : ∃ w0, w0 = w.alloc (.cells #[.string N, .int .i64 x, .slice ao F.length cap] 25) := ⟨_, rfl⟩
  rw [← hw0] at hB0
  have HW0 := Lib.hid hw0
  clear hw0
  rcases hcs with ⟨h1, h2 | ⟨h2, h3⟩⟩ | ⟨h1, h2⟩ | ⟨h1, h2, h3⟩
  · rw [h1] at hbr
    obtain rfl : Q = ([], false) := by exact hbr
    have t2 : (B.size : Int) ≤ 7 := by omega
    clear h1 h2 hbr
    go_enter Tryd.func19, Tryd.ntmps19
    go_wp2_with (first | (go_at_call 46; rw [← HW0.out]; refine (HV.out _ (HU.out.below hB0 (Nat.le_refl _))).mono ?_; rintro e w1 ⟨rfl, hC1⟩; have hZ := hB0.trans (hC1.mono hB0.size)))
    go_ret2
    exact ⟨by first | rfl | (dsimp only; rw [bs_us]), hZ⟩
  · rw [h1] at hbr
    obtain rfl : Q = ([], false) := by exact hbr
    have t2 : ¬ ((B.size : Int) ≤ 7) := by omega
    have t4 : (7 : Int) ≤ (B.size : Int) := by omega
    have t3 : ((B.extract 0 7).toList == [122, 57, 104, 71, 52, 98, 75]) = false := by rw [beq_eq_false_iff_ne]; exact h3
    clear h1 h2 h3 hbr
    go_enter Tryd.func19, Tryd.ntmps19
    go_wp2_with (first | (go_at_call 46; rw [← HW0.out]; refine (HV.out _ (HU.out.below hB0 (Nat.le_refl _))).mono ?_; rintro e w1 ⟨rfl, hC1⟩; have hZ := hB0.trans (hC1.mono hB0.size)))
    go_ret2
    exact ⟨by first | rfl | (dsimp only; rw [bs_us]), hZ⟩
  · rw [h1] at hbr
    obtain rfl : Q = ([], false) := by rw [hbr, h2]; rfl
    have t2 : (B.size : Int) ≤ 7 := by omega
    clear h1 h2 hbr
    go_enter Tryd.func19, Tryd.ntmps19
    go_wp2_with (first | (go_at_call 46; rw [← HW0.out]; refine (HV.out _ (HU.out.below hB0 (Nat.le_refl _))).mono ?_; rintro e w1 ⟨rfl, hC1⟩; have hZ := hB0.trans (hC1.mono hB0.size)))
    go_ret2
    exact ⟨by first | rfl | (dsimp only; rw [bs_us]), hZ⟩
  · rw [h1] at hbr
    obtain rfl : Q = (us B, true) := by rw [hbr]; simp [h2]
    have t2 : ¬ ((B.size : Int) ≤ 7) := by omega
    have t4 : (7 : Int) ≤ (B.size : Int) := by omega
    have t3 : ((B.extract 0 7).toList == [122, 57, 104, 71, 52, 98, 75]) = true := by rw [beq_iff_eq]; exact h3
    clear h1 h2 h3 hbr
    go_enter Tryd.func19, Tryd.ntmps19
    go_wp2_with (first | (go_at_call 46; rw [← HW0.out]; refine (HV.out _ (HU.out.below hB0 (Nat.le_refl _))).mono ?_; rintro e w1 ⟨rfl, hC1⟩; have hZ := hB0.trans (hC1.mono hB0.size)))
    go_ret2
    exact ⟨by first | rfl | (dsimp only; rw [bs_us]), hZ⟩

theorem ret_s {s : ByteArray} {l : List UInt8} (h : us s = l) : Ending.returned (.string s) = .returned (.string (bs l)) := by rw [← h, bs_us]
set_option maxHeartbeats 1600000 in
theorem byV_c (N : ByteArray) (x : Int) (u : Value) (F : List Prm) (hN : N.size ≤ 4294967280) (hx0 : -9223372036854775808 ≤ x) (hx1 : x ≤ 9223372036854775807) (w : World) (hu : RPrms w u F) :
    Calls Tryd.prog 22 #[.agg #[.string N, .int .i64 x, u]] w fun e w' => e = .returned (.string (bs (byV ⟨us N, x, F⟩))) ∧ Below w.heap.size w w' := by
  obtain ⟨ao, cap, rfl, _, _⟩ := hu.form
  clear hu
  have hdl : ∀ y : Int, (digits y).length ≤ 20 := by
    intro y
    have h0 : ∀ f m, (digF f m).length ≤ f := by
      intro f
      induction f with
      | zero => intro m; exact Nat.le_refl _
      | succ f ih => intro m; rw [digF]; split <;> simp; have := ih (m / 10); omega
    unfold digits
    split
    · decide
    · exact h0 20 _
  have hB0 : Below w.heap.size w (w.alloc (.cells #[.string N, .int .i64 x, .slice ao F.length cap] 25)) := (Below.refl _ _).alloc (Nat.le_refl _) _
  have bm := Blk.new w 25 #[.string N, .int .i64 x, .slice ao F.length cap]
  obtain ⟨w0, hw0⟩ : ∃ w0, w0 = w.alloc (.cells #[.string N, .int .i64 x, .slice ao F.length cap] 25) := ⟨_, rfl⟩
  rw [← hw0] at hB0 bm
  have HW0 := Lib.hid hw0
  clear hw0
  obtain ⟨p0, p1, p2, _, _, _, _⟩ := bm.f3
  by_cases hz : x = 0
  · have t1 : (x == 0) = true := by simp [hz]
    have hl := hdl 5060
    obtain ⟨D, hD⟩ : ∃ D, D = bs (digits 5060) := ⟨_, rfl⟩
    have uD : digits 5060 = us D := by rw [hD, us_bs]
    have sD : D.size ≤ 20 := by rw [hD, size_bs]; exact hl
    have HTX := Lib.hid (show byV ⟨us N, x, F⟩ = us N ++ 58 :: us D by unfold byV; dsimp only; rw [if_pos hz, uD])
    have cD := fun d os => Calls.regrown_of (digits_c 5060 (by omega) (by omega) (grow (redrawn w0 d) os))
    rw [← hD] at cD
    have q0 := cell_regrown p0
    clear hz hl hD uD hdl
    go_enter Tryd.func22, Tryd.ntmps22
    go_wp2
    rw [← HW0.out]
    refine wp_region_quiet_below (by kernel_rfl) (by kernel_rfl) ?_
    repeat (first | go_big_quiet_step (with_reducible exact cD _ _) | quiet_step (with_reducible exact cD _ _))
    refine wpQuiet_nil ?_
    intro wq hw'
    have hBq := regrownV hw'
    clear hw' cD q0
    go_wp2
    go_ret
    refine ⟨?_, hB0.trans (hBq.mono hB0.size)⟩
    rw [HTX.out]
    exact ret_s (by simp [us])
  · have t1 : (x == 0) = false := by simp [hz]
    have hl := hdl x
    obtain ⟨D, hD⟩ : ∃ D, D = bs (digits x) := ⟨_, rfl⟩
    have uD : digits x = us D := by rw [hD, us_bs]
    have sD : D.size ≤ 20 := by rw [hD, size_bs]; exact hl
    have HTX := Lib.hid (show byV ⟨us N, x, F⟩ = us N ++ 58 :: us D by unfold byV; dsimp only; rw [if_neg hz, uD])
    have cD := fun d os => Calls.regrown_of (digits_c x (by omega) (by omega) (grow (redrawn w0 d) os))
    rw [← hD] at cD
    have q0 := cell_regrown p0
    clear hz hl hD uD hdl
    go_enter Tryd.func22, Tryd.ntmps22
    go_wp2
    rw [← HW0.out]
    refine wp_region_quiet_below (by kernel_rfl) (by kernel_rfl) ?_
    repeat (first | go_big_quiet_step (with_reducible exact cD _ _) | quiet_step (with_reducible exact cD _ _))
    refine wpQuiet_nil ?_
    intro wq hw'
    have hBq := regrownV hw'
    clear hw' cD q0
    go_wp2
    go_ret
    refine ⟨?_, hB0.trans (hBq.mono hB0.size)⟩
    rw [HTX.out]
    exact ret_s (by simp [us])

set_option maxHeartbeats 1600000 in
theorem byVR_c (N : ByteArray) (x : Int) (u : Value) (F : List Prm) (hN : N.size ≤ 4294967280) (hx0 : -9223372036854775808 ≤ x) (hx1 : x ≤ 9223372036854775807) (w : World) (hu : RPrms w u F) :
    Calls Tryd.prog 23 #[.agg #[.string N, .int .i64 x, u]] w fun e w' => e = .returned (.string (bs (byV ⟨us N, x, F⟩))) ∧ Below w.heap.size w w' := by
  obtain ⟨ao, cap, rfl, _, _⟩ := hu.form
  clear hu
  have hdl : ∀ y : Int, (digits y).length ≤ 20 := by
    intro y
    have h0 : ∀ f m, (digF f m).length ≤ f := by
      intro f
      induction f with
      | zero => intro m; exact Nat.le_refl _
      | succ f ih => intro m; rw [digF]; split <;> simp; have := ih (m / 10); omega
    unfold digits
    split
    · decide
    · exact h0 20 _
  have hB0 : Below w.heap.size w (w.alloc (.cells #[.string N, .int .i64 x, .slice ao F.length cap] 25)) := (Below.refl _ _).alloc (Nat.le_refl _) _
  have bm := Blk.new w 25 #[.string N, .int .i64 x, .slice ao F.length cap]
  obtain ⟨w0, hw0⟩ : ∃ w0, w0 = w.alloc (.cells #[.string N, .int .i64 x, .slice ao F.length cap] 25) := ⟨_, rfl⟩
  rw [← hw0] at hB0 bm
  have HW0 := Lib.hid hw0
  clear hw0
  obtain ⟨p0, p1, p2, _, _, _, _⟩ := bm.f3
  by_cases hz : x = 0
  · have t1 : (x == 0) = true := by simp [hz]
    have HTX := Lib.hid (show byV ⟨us N, x, F⟩ = us N ++ [58, 53, 48, 54, 48] by unfold byV; dsimp only; rw [if_pos hz]; rfl)
    clear hz hdl
    go_enter Tryd.func23, Tryd.ntmps23
    go_wp2
    go_ret
    refine ⟨?_, by rw [HW0.out] at hB0; exact hB0⟩
    rw [HTX.out]
    exact ret_s (by simp [us])
  · have t1 : (x == 0) = false := by simp [hz]
    have hl := hdl x
    obtain ⟨D, hD⟩ : ∃ D, D = bs (digits x) := ⟨_, rfl⟩
    have uD : digits x = us D := by rw [hD, us_bs]
    have sD : D.size ≤ 20 := by rw [hD, size_bs]; exact hl
    have HTX := Lib.hid (show byV ⟨us N, x, F⟩ = us N ++ 58 :: us D by unfold byV; dsimp only; rw [if_neg hz, uD])
    have HD := Lib.hid (fun wx => digitsR_c x hx0 hx1 wx)
    rw [← hD] at HD
    clear hz hl hD uD hdl
    go_enter Tryd.func23, Tryd.ntmps23
    go_wp2
    rw [← HW0.out]
    go_quiet ((go_at_call 42; exact Calls.quiet_of (HD.out _)))
    go_wp2
    go_ret
    refine ⟨?_, hB0.trans (Drn.below ⟨_, rfl⟩)⟩
    rw [HTX.out]
    exact ret_s (by simp [us])

/-- the same hop, as it stands? -/
theorem sameV_c (N : ByteArray) (x : Int) (u : Value) (F : List Prm) (M : ByteArray) (y : Int) (v : Value) (G : List Prm) (w : World) (hu : RPrms w u F) (hv : RPrms w v G) :
    Calls Tryd.prog 12 #[.agg #[.string N, .int .i64 x, u], .agg #[.string M, .int .i64 y, v]] w fun e w' => e = .returned (.bool ((N.toList == M.toList) && (x == y) && (F == G))) ∧ Below w.heap.size w w' := by
  have HU := Lib.hid hu
  have HV := Lib.hid hv
  obtain ⟨ao, cap, rfl, _, _⟩ := hu.form
  obtain ⟨bo, cap', rfl, _, _⟩ := hv.form
  clear hu hv
  have HL := Lib.hid (fun wx hx hy => lists_c (.slice ao F.length cap) (.slice bo G.length cap') F G wx hx hy)
  have hR0 : Below w.heap.size w w := Below.refl _ _
  obtain ⟨q, hq⟩ : ∃ q, q = (F == G) := ⟨_, rfl⟩
  rw [← hq] at HL ⊢
  clear hq
  cases e1 : (N.toList == M.toList)
  all_goals
    cases e2 : (x == y)
    all_goals
      go_enter Tryd.func12, Tryd.ntmps12
      go_wp2_with (go_at_call 37; refine (HL.out _ (HU.out.below ((hR0.alloc (Nat.le_refl _) _).alloc (by rw [World.size_alloc]; omega) _) (Nat.le_refl _)) (HV.out.below ((hR0.alloc (Nat.le_refl _) _).alloc (by rw [World.size_alloc]; omega) _) (Nat.le_refl _))).mono ?_; rintro e w1 ⟨rfl, hD⟩; replace hR0 := ((hR0.alloc (Nat.le_refl _) _).alloc (by rw [World.size_alloc]; omega) _).trans (hD.below (B := w.heap.size)); clear hD)
      go_ret
      exact ⟨ret_bool (by simp), by first | exact hR0 | exact (hR0.alloc (Nat.le_refl _) _).alloc (by rw [World.size_alloc]; omega) _⟩

end Go.Proofs.YtjohecbmeoalaaaDoor
