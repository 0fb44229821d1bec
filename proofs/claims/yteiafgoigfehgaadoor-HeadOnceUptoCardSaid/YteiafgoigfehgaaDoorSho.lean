/-
  head.Show, rosterref08.Show.
  head.Show, rosterref08.Show, the walks.
  rosterref08.Show, the walk.
-/
import Derived.Test.YteiafgoigfehgaaDoorSta
import Derived.Test.YteiafgoigfehgaaDoorHed
import Derived.Lib.QuietBelow
import Derived.BigQuiet
namespace Go.Proofs.YteiafgoigfehgaaDoor

section
open Go.RowKit

/-- the text of a state -/
def showS (n : List UInt8) (x : Int) (r : List UInt8) : List UInt8 × Int :=
  if token n = false ∨ lowr n ≠ n ∨ x < -1 ∨ 2147483647 < x ∨ (r ≠ [] ∧ token r = false) then ([], 82)
  else (n ++ ((if r = [] then [] else 59 :: (sReason ++ 61 :: r)) ++ (if x < 0 then [] else 59 :: (sExpires ++ 61 :: digits x))), 0)

theorem show_cases (N : ByteArray) (x : Int) (R : ByteArray) :
    (showS (us N) x (us R) = ([], 82) ∧ (token (us N) = false ∨ (token (us N) = true ∧ ¬ lowr (us N) = us N) ∨ (token (us N) = true ∧ lowr (us N) = us N ∧ x < -1) ∨ (token (us N) = true ∧ lowr (us N) = us N ∧ ¬ x < -1 ∧ 2147483647 < x) ∨
      (token (us N) = true ∧ lowr (us N) = us N ∧ ¬ x < -1 ∧ ¬ 2147483647 < x ∧ ¬ R.size = 0 ∧ token (us R) = false))) ∨
    (token (us N) = true ∧ lowr (us N) = us N ∧ ¬ x < -1 ∧ ¬ 2147483647 < x ∧
      ((R.size = 0 ∧ x < 0 ∧ showS (us N) x (us R) = (us N, 0)) ∨ (R.size = 0 ∧ ¬ x < 0 ∧ showS (us N) x (us R) = (us N ++ 59 :: (sExpires ++ 61 :: digits x), 0)) ∨
       (¬ R.size = 0 ∧ token (us R) = true ∧ x < 0 ∧ showS (us N) x (us R) = (us N ++ 59 :: (sReason ++ 61 :: us R), 0)) ∨
       (¬ R.size = 0 ∧ token (us R) = true ∧ ¬ x < 0 ∧ showS (us N) x (us R) = (us N ++ (59 :: (sReason ++ 61 :: us R) ++ 59 :: (sExpires ++ 61 :: digits x)), 0)))) := by
  have hn : us R = [] ↔ R.size = 0 := by rw [← length_us, List.length_eq_zero_iff]
  unfold showS
  by_cases hb : token (us N) = false ∨ lowr (us N) ≠ us N ∨ x < -1 ∨ 2147483647 < x ∨ (us R ≠ [] ∧ token (us R) = false)
  · left
    refine ⟨if_pos hb, ?_⟩
    cases ht : token (us N)
    · exact .inl rfl
    refine .inr ?_
    by_cases hl : lowr (us N) = us N
    case neg => exact .inl ⟨rfl, hl⟩
    refine .inr ?_
    by_cases h1 : x < -1
    · exact .inl ⟨rfl, hl, h1⟩
    refine .inr ?_
    by_cases h2 : 2147483647 < x
    · exact .inl ⟨rfl, hl, h1, h2⟩
    refine .inr ⟨rfl, hl, h1, h2, ?_⟩
    rcases hb with h | h | h | h | h
    · rw [ht] at h; cases h
    · exact absurd hl h
    · exact absurd h h1
    · exact absurd h h2
    · exact ⟨fun e => h.1 (hn.2 e), h.2⟩
  · right
    have ht : token (us N) = true := by
      cases h : token (us N)
      · exact absurd (.inl h) hb
      · rfl
    have hl : lowr (us N) = us N := by
      by_cases h : lowr (us N) = us N
      · exact h
      · exact absurd (.inr (.inl h)) hb
    refine ⟨ht, hl, fun h => hb (.inr (.inr (.inl h))), fun h => hb (.inr (.inr (.inr (.inl h)))), ?_⟩
    rw [if_neg hb]
    by_cases hz : R.size = 0
    · rw [if_pos (hn.2 hz)]
      by_cases hx : x < 0
      · exact .inl ⟨hz, hx, by rw [if_pos hx]; simp⟩
      · exact .inr (.inl ⟨hz, hx, by rw [if_neg hx]; simp⟩)
    · have hr : ¬ us R = [] := fun e => hz (hn.1 e)
      have htr : token (us R) = true := by
        cases h : token (us R)
        · exact absurd (.inr (.inr (.inr (.inr ⟨hr, h⟩)))) hb
        · rfl
      rw [if_neg hr]
      by_cases hx : x < 0
      · exact .inr (.inr (.inl ⟨hz, htr, hx, by rw [if_pos hx]; simp⟩))
      · exact .inr (.inr (.inr ⟨hz, htr, hx, by rw [if_neg hx]⟩))
end

section
open Go.RowKit Go.Sort

theorem same_below {P : Program} {f : FuncId} {args : Array Value} {w : World} {v : Value} (h : Calls P f args w fun e w' => e = .returned v ∧ w = w') :
    Calls P f args w fun e w' => e = .returned v ∧ Below w.heap.size w w' := h.mono fun _ _ ⟨a, b⟩ => ⟨a, b ▸ Below.refl _ _⟩
theorem regrown3 {w wq : World} {N X R : Value} {t : TypeId} (h : ∃ p : Regrown, wq = grow (redrawn (w.alloc (.cells #[N, X, R] t)) p.d) p.os) :
    wq.cell? ⟨w.heap.size, 0, none⟩ = some N ∧ wq.cell? ⟨w.heap.size, 1, none⟩ = some X ∧ wq.cell? ⟨w.heap.size, 2, none⟩ = some R ∧ w.heap.size < wq.heap.size ∧ Below w.heap.size w wq := by
  obtain ⟨p, rfl⟩ := h
  have hb := below_regrown (w.alloc (.cells #[N, X, R] t)) p.d p.os
  rw [show (w.alloc (.cells #[N, X, R] t)).heap.size = w.heap.size + 1 from World.size_alloc _ _] at hb
  obtain ⟨a, b, c, _⟩ := boxed hb
  exact ⟨a, b, c, by have h2 := hb.size; rw [World.size_alloc] at h2; omega, ((Below.refl _ _).alloc (Nat.le_refl _) _).trans (hb.mono (by omega))⟩

set_option maxRecDepth 100000 in
set_option maxHeartbeats 6400000 in
theorem show_c (N : ByteArray) (x : Int) (R : ByteArray) (hN : N.size ≤ 4294967280) (hR : R.size ≤ 4294967280) (x0 : -9223372036854775808 ≤ x) (x1 : x ≤ 9223372036854775807) (w : World) :
    Calls Tryd.prog 20 #[.agg #[.string N, .int .i64 x, .string R]] w fun e w' => e = .returned (.tuple #[.string (bs (showS (us N) x (us R)).1), .int .i64 (showS (us N) x (us R)).2]) ∧ Below w.heap.size w w' := by
  have hT := fun wx => token_c N (by omega) wx
  have hRT := fun wx => token_c R (by omega) wx
  have hL := fun wx => lowerP_c N (by omega) wx
  have HD := Lib.hid (fun wx => digits_c x x0 x1 wx)
  have hds : (bs (digits x)).size ≤ 20 := by rw [size_bs]; exact digits_len x
  have cT := fun d os => Calls.regrown_of (same_below (hT (grow (redrawn (w.alloc (.cells #[.string N, .int .i64 x, .string R] 34)) d) os)))
  have cR := fun d os => Calls.regrown_of (same_below (hRT (grow (redrawn (w.alloc (.cells #[.string N, .int .i64 x, .string R] 34)) d) os)))
  have cL := fun d os => Calls.regrown_of (hL (grow (redrawn (w.alloc (.cells #[.string N, .int .i64 x, .string R] 34)) d) os))
  have c0 : (w.alloc (.cells #[.string N, .int .i64 x, .string R] 34)).cell? ⟨w.heap.size, 0, none⟩ = some (.string N) := boxedCell (heap_alloc_new w _) 0
  have c1 : (w.alloc (.cells #[.string N, .int .i64 x, .string R] 34)).cell? ⟨w.heap.size, 1, none⟩ = some (.int .i64 x) := boxedCell (heap_alloc_new w _) 1
  have c2 : (w.alloc (.cells #[.string N, .int .i64 x, .string R] 34)).cell? ⟨w.heap.size, 2, none⟩ = some (.string R) := boxedCell (heap_alloc_new w _) 2
  have k0 := cell_regrown c0
  have k1 := cell_regrown c1
  have k2 := cell_regrown c2
  have HBX := Lib.hid (fun wq hw' => regrown3 (N := .string N) (X := .int .i64 x) (R := .string R) (t := 34) (w := w) (wq := wq) hw')
  clear hT hRT hL c0 c1 c2
  obtain ⟨D, hD⟩ : ∃ D, D = bs (digits x) := ⟨_, rfl⟩
  have HDu := Lib.hid (show digits x = us D by rw [hD, us_bs])
  rw [← hD] at HD hds
  clear hD
  have hC := show_cases N x R
  rcases hC with ⟨hE, hC⟩ | ⟨ht, hl, h1, h2, hC⟩
  · have HE := Lib.hid hE
    clear hE
    rcases hC with ht | ⟨ht, hl⟩ | ⟨ht, hl, h1⟩ | ⟨ht, hl, h1, h2⟩ | ⟨ht, hl, h1, h2, hz, hr⟩
    · rw [ht] at cT; clear ht
      go_enter Tryd.func20, Tryd.ntmps20
      go_wp2
      refine wp_region_quiet_below (by kernel_rfl) (by kernel_rfl) ?_
      repeat (first | go_big_quiet_step (first | with_reducible exact cT _ _ | with_reducible exact cL _ _ | with_reducible exact cR _ _) | quiet_step (first | with_reducible exact cT _ _ | with_reducible exact cL _ _ | with_reducible exact cR _ _))
      refine wpQuiet_nil ?_
      intro wq hw'
      have hBq := HBX.out wq hw'
      clear hw'
      obtain ⟨a0, a1, a2, hz, hB⟩ := hBq
      go_wp2
      go_ret2
      exact ⟨by rw [HE.out]; rfl, hB⟩
    · rw [ht] at cT
      obtain ⟨T, hT⟩ : ∃ T, T = bs (lowr (us N)) := ⟨_, rfl⟩
      have hne : (T.toList == N.toList) = false := by rw [toList_us, toList_us, hT, us_bs, beq_eq_false_iff_ne]; exact hl
      rw [← hT] at cL
      clear ht hl hT
      go_enter Tryd.func20, Tryd.ntmps20
      go_wp2
      refine wp_region_quiet_below (by kernel_rfl) (by kernel_rfl) ?_
      repeat (first | go_big_quiet_step (first | with_reducible exact cT _ _ | with_reducible exact cL _ _ | with_reducible exact cR _ _) | quiet_step (first | with_reducible exact cT _ _ | with_reducible exact cL _ _ | with_reducible exact cR _ _))
      refine wpQuiet_nil ?_
      intro wq hw'
      have hBq := HBX.out wq hw'
      clear hw'
      obtain ⟨a0, a1, a2, hz, hB⟩ := hBq
      go_wp2
      go_ret2
      exact ⟨by rw [HE.out]; rfl, hB⟩
    · rw [ht] at cT
      rw [hl, bs_us] at cL
      clear ht hl
      go_enter Tryd.func20, Tryd.ntmps20
      go_wp2
      refine wp_region_quiet_below (by kernel_rfl) (by kernel_rfl) ?_
      repeat (first | go_big_quiet_step (first | with_reducible exact cT _ _ | with_reducible exact cL _ _ | with_reducible exact cR _ _) | quiet_step (first | with_reducible exact cT _ _ | with_reducible exact cL _ _ | with_reducible exact cR _ _))
      refine wpQuiet_nil ?_
      intro wq hw'
      have hBq := HBX.out wq hw'
      clear hw'
      obtain ⟨a0, a1, a2, hz, hB⟩ := hBq
      go_wp2
      go_ret2
      exact ⟨by rw [HE.out]; rfl, hB⟩
    · rw [ht] at cT
      rw [hl, bs_us] at cL
      clear ht hl
      go_enter Tryd.func20, Tryd.ntmps20
      go_wp2
      refine wp_region_quiet_below (by kernel_rfl) (by kernel_rfl) ?_
      repeat (first | go_big_quiet_step (first | with_reducible exact cT _ _ | with_reducible exact cL _ _ | with_reducible exact cR _ _) | quiet_step (first | with_reducible exact cT _ _ | with_reducible exact cL _ _ | with_reducible exact cR _ _))
      refine wpQuiet_nil ?_
      intro wq hw'
      have hBq := HBX.out wq hw'
      clear hw'
      obtain ⟨a0, a1, a2, hz, hB⟩ := hBq
      go_wp2
      go_ret2
      exact ⟨by rw [HE.out]; rfl, hB⟩
    · rw [ht] at cT
      rw [hl, bs_us] at cL
      rw [hr] at cR
      have pE := ne_empty hz
      have pF := isEmpty_f hz
      clear ht hl hr
      go_enter Tryd.func20, Tryd.ntmps20
      go_wp2
      refine wp_region_quiet_below (by kernel_rfl) (by kernel_rfl) ?_
      repeat (first | go_big_quiet_step (first | with_reducible exact cT _ _ | with_reducible exact cL _ _ | with_reducible exact cR _ _) | quiet_step (first | with_reducible exact cT _ _ | with_reducible exact cL _ _ | with_reducible exact cR _ _))
      refine wpQuiet_nil ?_
      intro wq hw'
      have hBq := HBX.out wq hw'
      clear hw'
      obtain ⟨a0, a1, a2, hz, hB⟩ := hBq
      go_wp2
      go_ret2
      exact ⟨by rw [HE.out]; rfl, hB⟩
  · rw [ht] at cT
    rw [hl, bs_us] at cL
    clear ht hl
    rcases hC with ⟨hz, hx, hE⟩ | ⟨hz, hx, hE⟩ | ⟨hz, hr, hx, hE⟩ | ⟨hz, hr, hx, hE⟩
    · have HE := Lib.hid hE
      obtain rfl := eq_empty hz
      have hx1 : x = -1 := by omega
      subst hx1
      clear hz hE
      go_enter Tryd.func20, Tryd.ntmps20
      go_wp2
      refine wp_region_quiet_below (by kernel_rfl) (by kernel_rfl) ?_
      repeat (first | go_big_quiet_step (first | with_reducible exact cT _ _ | with_reducible exact cL _ _ | with_reducible exact cR _ _) | quiet_step (first | with_reducible exact cT _ _ | with_reducible exact cL _ _ | with_reducible exact cR _ _))
      refine wpQuiet_nil ?_
      intro wq hw'
      have hBq := HBX.out wq hw'
      clear hw'
      obtain ⟨a0, a1, a2, hz, hB⟩ := hBq
      go_wp2
      go_ret2
      exact ⟨ret_sp (by rw [HE.out]), hB⟩
    · have HE := Lib.hid hE
      obtain rfl := eq_empty hz
      have hx' : (x != -1) = true := by simp; omega
      clear hz hE
      go_enter Tryd.func20, Tryd.ntmps20
      go_wp2
      refine wp_region_quiet_below (by kernel_rfl) (by kernel_rfl) ?_
      repeat (first | go_big_quiet_step (first | with_reducible exact cT _ _ | with_reducible exact cL _ _ | with_reducible exact cR _ _) | quiet_step (first | with_reducible exact cT _ _ | with_reducible exact cL _ _ | with_reducible exact cR _ _))
      refine wpQuiet_nil ?_
      intro wq hw'
      have hBq := HBX.out wq hw'
      clear hw'
      obtain ⟨a0, a1, a2, hz, hB⟩ := hBq
      go_wp2_with (go_at_call 17; refine (HD.out _).mono ?_; rintro e wd ⟨rfl, hC⟩; replace hB := hB.trans (hC.mono hB.size))
      go_ret2
      exact ⟨ret_sp (by rw [HE.out]; simp [us_append, HDu.out, sExpires]; simp [us]), hB⟩
    · have HE := Lib.hid hE
      rw [hr] at cR
      have pE := ne_empty hz
      have pF := isEmpty_f hz
      have hx1 : x = -1 := by omega
      subst hx1
      clear hr hE
      go_enter Tryd.func20, Tryd.ntmps20
      go_wp2
      refine wp_region_quiet_below (by kernel_rfl) (by kernel_rfl) ?_
      repeat (first | go_big_quiet_step (first | with_reducible exact cT _ _ | with_reducible exact cL _ _ | with_reducible exact cR _ _) | quiet_step (first | with_reducible exact cT _ _ | with_reducible exact cL _ _ | with_reducible exact cR _ _))
      refine wpQuiet_nil ?_
      intro wq hw'
      have hBq := HBX.out wq hw'
      clear hw'
      obtain ⟨a0, a1, a2, hz, hB⟩ := hBq
      go_wp2
      go_ret2
      exact ⟨ret_sp (by rw [HE.out]; simp [us_append, sReason]; simp [us]), hB⟩
    · have HE := Lib.hid hE
      rw [hr] at cR
      have pE := ne_empty hz
      have pF := isEmpty_f hz
      have hx' : (x != -1) = true := by simp; omega
      clear hr hE
      go_enter Tryd.func20, Tryd.ntmps20
      go_wp2
      refine wp_region_quiet_below (by kernel_rfl) (by kernel_rfl) ?_
      repeat (first | go_big_quiet_step (first | with_reducible exact cT _ _ | with_reducible exact cL _ _ | with_reducible exact cR _ _) | quiet_step (first | with_reducible exact cT _ _ | with_reducible exact cL _ _ | with_reducible exact cR _ _))
      refine wpQuiet_nil ?_
      intro wq hw'
      have hBq := HBX.out wq hw'
      clear hw'
      obtain ⟨a0, a1, a2, hz, hB⟩ := hBq
      go_wp2_with (go_at_call 17; refine (HD.out _).mono ?_; rintro e wd ⟨rfl, hC⟩; replace hB := hB.trans (hC.mono hB.size))
      go_ret2
      exact ⟨ret_sp (by rw [HE.out]; simp [us_append, HDu.out, sReason, sExpires]; simp [us]), hB⟩
end

section
open Go.RowKit Go.Sort

set_option maxRecDepth 100000 in
set_option maxHeartbeats 6400000 in
theorem showR_c (N : ByteArray) (x : Int) (R : ByteArray) (hN : N.size ≤ 4294967280) (hR : R.size ≤ 4294967280) (x0 : -9223372036854775808 ≤ x) (x1 : x ≤ 9223372036854775807) (w : World) :
    Calls Tryd.prog 21 #[.agg #[.string N, .int .i64 x, .string R]] w fun e w' => e = .returned (.tuple #[.string (bs (showS (us N) x (us R)).1), .int .i64 (showS (us N) x (us R)).2]) ∧ Below w.heap.size w w' := by
  have hT := fun wx => tokenR_c N (by omega) wx
  have hRT := fun wx => tokenR_c R (by omega) wx
  have hL := fun wx => lowerR_c N (by omega) wx
  have HD := Lib.hid (fun wx => digitsR_c x x0 x1 wx)
  have hds : (bs (digits x)).size ≤ 20 := by rw [size_bs]; exact digits_len x
  have cT := fun d os => Calls.regrown_of (same_below (hT (grow (redrawn (w.alloc (.cells #[.string N, .int .i64 x, .string R] 34)) d) os)))
  have cR := fun d os => Calls.regrown_of (same_below (hRT (grow (redrawn (w.alloc (.cells #[.string N, .int .i64 x, .string R] 34)) d) os)))
  have cL := fun d os => Calls.regrown_of (hL (grow (redrawn (w.alloc (.cells #[.string N, .int .i64 x, .string R] 34)) d) os))
  have c0 : (w.alloc (.cells #[.string N, .int .i64 x, .string R] 34)).cell? ⟨w.heap.size, 0, none⟩ = some (.string N) := boxedCell (heap_alloc_new w _) 0
  have c1 : (w.alloc (.cells #[.string N, .int .i64 x, .string R] 34)).cell? ⟨w.heap.size, 1, none⟩ = some (.int .i64 x) := boxedCell (heap_alloc_new w _) 1
  have c2 : (w.alloc (.cells #[.string N, .int .i64 x, .string R] 34)).cell? ⟨w.heap.size, 2, none⟩ = some (.string R) := boxedCell (heap_alloc_new w _) 2
  have k0 := cell_regrown c0
  have k1 := cell_regrown c1
  have k2 := cell_regrown c2
  have HBX := Lib.hid (fun wq hw' => regrown3 (N := .string N) (X := .int .i64 x) (R := .string R) (t := 34) (w := w) (wq := wq) hw')
  clear hT hRT hL c0 c1 c2
  obtain ⟨D, hD⟩ : ∃ D, D = bs (digits x) := ⟨_, rfl⟩
  have HDu := Lib.hid (show digits x = us D by rw [hD, us_bs])
  rw [← hD] at HD hds
  clear hD
  have hC := show_cases N x R
  rcases hC with ⟨hE, hC⟩ | ⟨ht, hl, h1, h2, hC⟩
  · have HE := Lib.hid hE
    clear hE
    rcases hC with ht | ⟨ht, hl⟩ | ⟨ht, hl, h1⟩ | ⟨ht, hl, h1, h2⟩ | ⟨ht, hl, h1, h2, hz, hr⟩
    · rw [ht] at cT; clear ht
      go_enter Tryd.func21, Tryd.ntmps21
      go_wp2
      refine wp_region_quiet_below (by kernel_rfl) (by kernel_rfl) ?_
      repeat (first | go_big_quiet_step (first | with_reducible exact cT _ _ | with_reducible exact cL _ _ | with_reducible exact cR _ _) | quiet_step (first | with_reducible exact cT _ _ | with_reducible exact cL _ _ | with_reducible exact cR _ _))
      refine wpQuiet_nil ?_
      intro wq hw'
      have hBq := HBX.out wq hw'
      clear hw'
      obtain ⟨a0, a1, a2, hz, hB⟩ := hBq
      go_wp2
      go_ret2
      exact ⟨by rw [HE.out]; rfl, hB⟩
    · rw [ht] at cT
      obtain ⟨T, hT⟩ : ∃ T, T = bs (lowr (us N)) := ⟨_, rfl⟩
      have hne : (T.toList == N.toList) = false := by rw [toList_us, toList_us, hT, us_bs, beq_eq_false_iff_ne]; exact hl
      rw [← hT] at cL
      clear ht hl hT
      go_enter Tryd.func21, Tryd.ntmps21
      go_wp2
      refine wp_region_quiet_below (by kernel_rfl) (by kernel_rfl) ?_
      repeat (first | go_big_quiet_step (first | with_reducible exact cT _ _ | with_reducible exact cL _ _ | with_reducible exact cR _ _) | quiet_step (first | with_reducible exact cT _ _ | with_reducible exact cL _ _ | with_reducible exact cR _ _))
      refine wpQuiet_nil ?_
      intro wq hw'
      have hBq := HBX.out wq hw'
      clear hw'
      obtain ⟨a0, a1, a2, hz, hB⟩ := hBq
      go_wp2
      go_ret2
      exact ⟨by rw [HE.out]; rfl, hB⟩
    · rw [ht] at cT
      rw [hl, bs_us] at cL
      clear ht hl
      go_enter Tryd.func21, Tryd.ntmps21
      go_wp2
      refine wp_region_quiet_below (by kernel_rfl) (by kernel_rfl) ?_
      repeat (first | go_big_quiet_step (first | with_reducible exact cT _ _ | with_reducible exact cL _ _ | with_reducible exact cR _ _) | quiet_step (first | with_reducible exact cT _ _ | with_reducible exact cL _ _ | with_reducible exact cR _ _))
      refine wpQuiet_nil ?_
      intro wq hw'
      have hBq := HBX.out wq hw'
      clear hw'
      obtain ⟨a0, a1, a2, hz, hB⟩ := hBq
      go_wp2
      go_ret2
      exact ⟨by rw [HE.out]; rfl, hB⟩
    · rw [ht] at cT
      rw [hl, bs_us] at cL
      clear ht hl
      go_enter Tryd.func21, Tryd.ntmps21
      go_wp2
      refine wp_region_quiet_below (by kernel_rfl) (by kernel_rfl) ?_
      repeat (first | go_big_quiet_step (first | with_reducible exact cT _ _ | with_reducible exact cL _ _ | with_reducible exact cR _ _) | quiet_step (first | with_reducible exact cT _ _ | with_reducible exact cL _ _ | with_reducible exact cR _ _))
      refine wpQuiet_nil ?_
      intro wq hw'
      have hBq := HBX.out wq hw'
      clear hw'
      obtain ⟨a0, a1, a2, hz, hB⟩ := hBq
      go_wp2
      go_ret2
      exact ⟨by rw [HE.out]; rfl, hB⟩
    · rw [ht] at cT
      rw [hl, bs_us] at cL
      rw [hr] at cR
      have pE := ne_empty hz
      have pF := isEmpty_f hz
      clear ht hl hr
      go_enter Tryd.func21, Tryd.ntmps21
      go_wp2
      refine wp_region_quiet_below (by kernel_rfl) (by kernel_rfl) ?_
      repeat (first | go_big_quiet_step (first | with_reducible exact cT _ _ | with_reducible exact cL _ _ | with_reducible exact cR _ _) | quiet_step (first | with_reducible exact cT _ _ | with_reducible exact cL _ _ | with_reducible exact cR _ _))
      refine wpQuiet_nil ?_
      intro wq hw'
      have hBq := HBX.out wq hw'
      clear hw'
      obtain ⟨a0, a1, a2, hz, hB⟩ := hBq
      go_wp2
      go_ret2
      exact ⟨by rw [HE.out]; rfl, hB⟩
  · rw [ht] at cT
    rw [hl, bs_us] at cL
    clear ht hl
    rcases hC with ⟨hz, hx, hE⟩ | ⟨hz, hx, hE⟩ | ⟨hz, hr, hx, hE⟩ | ⟨hz, hr, hx, hE⟩
    · have HE := Lib.hid hE
      obtain rfl := eq_empty hz
      have hx1 : x = -1 := by omega
      subst hx1
      clear hz hE
      go_enter Tryd.func21, Tryd.ntmps21
      go_wp2
      refine wp_region_quiet_below (by kernel_rfl) (by kernel_rfl) ?_
      repeat (first | go_big_quiet_step (first | with_reducible exact cT _ _ | with_reducible exact cL _ _ | with_reducible exact cR _ _) | quiet_step (first | with_reducible exact cT _ _ | with_reducible exact cL _ _ | with_reducible exact cR _ _))
      refine wpQuiet_nil ?_
      intro wq hw'
      have hBq := HBX.out wq hw'
      clear hw'
      obtain ⟨a0, a1, a2, hz, hB⟩ := hBq
      go_wp2
      go_ret2
      exact ⟨ret_sp (by rw [HE.out]), hB⟩
    · have HE := Lib.hid hE
      obtain rfl := eq_empty hz
      have hx' : (x != -1) = true := by simp; omega
      clear hz hE
      go_enter Tryd.func21, Tryd.ntmps21
      go_wp2
      refine wp_region_quiet_below (by kernel_rfl) (by kernel_rfl) ?_
      repeat (first | go_big_quiet_step (first | with_reducible exact cT _ _ | with_reducible exact cL _ _ | with_reducible exact cR _ _) | quiet_step (first | with_reducible exact cT _ _ | with_reducible exact cL _ _ | with_reducible exact cR _ _))
      refine wpQuiet_nil ?_
      intro wq hw'
      have hBq := HBX.out wq hw'
      clear hw'
      obtain ⟨a0, a1, a2, hz, hB⟩ := hBq
      go_wp2_with (go_at_call 50; refine (HD.out _).mono ?_; rintro e wd ⟨rfl, hC⟩; replace hB := hB.trans (hC.below (B := w.heap.size)))
      go_ret2
      exact ⟨ret_sp (by rw [HE.out]; simp [us_append, HDu.out, sExpires]; simp [us]), hB⟩
    · have HE := Lib.hid hE
      rw [hr] at cR
      have pE := ne_empty hz
      have pF := isEmpty_f hz
      have hx1 : x = -1 := by omega
      subst hx1
      clear hr hE
      go_enter Tryd.func21, Tryd.ntmps21
      go_wp2
      refine wp_region_quiet_below (by kernel_rfl) (by kernel_rfl) ?_
      repeat (first | go_big_quiet_step (first | with_reducible exact cT _ _ | with_reducible exact cL _ _ | with_reducible exact cR _ _) | quiet_step (first | with_reducible exact cT _ _ | with_reducible exact cL _ _ | with_reducible exact cR _ _))
      refine wpQuiet_nil ?_
      intro wq hw'
      have hBq := HBX.out wq hw'
      clear hw'
      obtain ⟨a0, a1, a2, hz, hB⟩ := hBq
      go_wp2
      go_ret2
      exact ⟨ret_sp (by rw [HE.out]; simp [us_append, sReason]; simp [us]), hB⟩
    · have HE := Lib.hid hE
      rw [hr] at cR
      have pE := ne_empty hz
      have pF := isEmpty_f hz
      have hx' : (x != -1) = true := by simp; omega
      clear hr hE
      go_enter Tryd.func21, Tryd.ntmps21
      go_wp2
      refine wp_region_quiet_below (by kernel_rfl) (by kernel_rfl) ?_
      repeat (first | go_big_quiet_step (first | with_reducible exact cT _ _ | with_reducible exact cL _ _ | with_reducible exact cR _ _) | quiet_step (first | with_reducible exact cT _ _ | with_reducible exact cL _ _ | with_reducible exact cR _ _))
      refine wpQuiet_nil ?_
      intro wq hw'
      have hBq := HBX.out wq hw'
      clear hw'
      obtain ⟨a0, a1, a2, hz, hB⟩ := hBq
      go_wp2_with (go_at_call 50; refine (HD.out _).mono ?_; rintro e wd ⟨rfl, hC⟩; replace hB := hB.trans (hC.below (B := w.heap.size)))
      go_ret2
      exact ⟨ret_sp (by rw [HE.out]; simp [us_append, HDu.out, sReason, sExpires]; simp [us]), hB⟩
end

end Go.Proofs.YteiafgoigfehgaaDoor
