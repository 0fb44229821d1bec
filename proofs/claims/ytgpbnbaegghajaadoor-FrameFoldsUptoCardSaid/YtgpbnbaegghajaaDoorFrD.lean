/-
  rosterref06.first.
-/
import Derived.Test.YtgpbnbaegghajaaDoorFrC
namespace Go.Proofs.YtgpbnbaegghajaaDoor
open Go.RowKit

theorem first_bad (M T R B : ByteArray) (x : Int) (H : List Hdr) (h : M.size ≠ 0) (hb : (us T).any blank = true) : firstS ⟨us M, us T, x, us R, H, us B⟩ = false := by
  rw [first_req M T R B x H h]
  unfold targS
  have : ∀ l : List UInt8, (l.all fun c => !blank c) = !l.any blank := by
    intro l; induction l with
    | nil => rfl
    | cons c r ih => simp [List.all_cons, List.any_cons, ih]
  rw [this, hb]; simp
theorem first_good (M T R B : ByteArray) (x : Int) (H : List Hdr) (h : M.size ≠ 0) (hb : (us T).any blank = false) :
    firstS ⟨us M, us T, x, us R, H, us B⟩ = (token (us M) && !(decide (T.size = 0)) && visS (us T) && (x == 0) && decide (R.size = 0)) := by
  rw [first_req M T R B x H h]
  unfold targS
  have : ∀ l : List UInt8, (l.all fun c => !blank c) = !l.any blank := by
    intro l; induction l with
    | nil => rfl
    | cons c r ih => simp [List.all_cons, List.any_cons, ih]
  rw [this, hb, us_beq]
  cases token (us M) <;> cases decide (T.size = 0) <;> cases visS (us T) <;> rfl

set_option maxHeartbeats 6400000 in
theorem firstR_c (M T R B : ByteArray) (x : Int) (u : Value) (H : List Hdr) (hM : M.size ≤ 4294967280) (hT : T.size ≤ 4294967280) (hR : R.size ≤ 4294967280) (w : World) :
    Calls Tryd.prog 52 #[.agg #[.string M, .string T, .int .i64 x, .string R, u, .string B]] w fun e w' => e = .returned (.bool (firstS ⟨us M, us T, x, us R, H, us B⟩)) ∧ Below w.heap.size w w' := by
  have hB0 : Below w.heap.size w (w.alloc (.cells #[.string M, .string T, .int .i64 x, .string R, u, .string B] 25)) := (Below.refl _ _).alloc (Nat.le_refl _) _
  by_cases hz : M.size = 0
  · obtain rfl := eq_empty hz
    have H1 := Lib.hid (fun wx => valueR_c' R (by omega) wx)
    have hV := first_res T R B x H
    by_cases x0 : 100 ≤ x <;> by_cases x1 : x ≤ 699 <;> by_cases tz : T.size = 0
    all_goals try (exfalso; omega)
    all_goals
      cases hv : valS (us R)
      all_goals
        rw [hv] at H1 hV
        first
          | rw [decide_eq_true x0] at hV
          | rw [decide_eq_false x0] at hV
        first
          | rw [decide_eq_true x1] at hV
          | rw [decide_eq_false x1] at hV
        first
          | rw [decide_eq_true tz] at hV
          | rw [decide_eq_false tz] at hV
        have HV := Lib.hid hV
        clear hv hV
        first
          | (have q1 := isEmpty_f tz; have q2 := ne_empty tz)
          | (obtain rfl := eq_empty tz)
        go_enter Tryd.func52, Tryd.ntmps52
        go_wp2_with (go_at_call 53; refine (H1.out _).mono ?_; rintro e wx ⟨rfl, rfl⟩)
        go_ret
        exact ⟨ret_bool (by rw [HV.out]; rfl), hB0⟩
  · have H1 := Lib.hid (fun wx => tokenR_c M (by omega) wx)
    have H2 := Lib.hid (fun wx => visR_c T (by omega) wx)
    have hVb := Lib.hid (fun hb => first_bad M T R B x H hz hb)
    have hVg := Lib.hid (fun hb => first_good M T R B x H hz hb)
    have m1 := isEmpty_f hz
    have m2 := ne_empty hz
    have hbk : Blk (w.alloc (.cells #[.string M, .string T, .int .i64 x, .string R, u, .string B] 25)) w.heap.size 25 #[.string M, .string T, .int .i64 x, .string R, u, .string B] := Blk.new _ _ _
    obtain ⟨w0, hw0⟩ : ∃ w0, w0 = w.alloc (.cells #[.string M, .string T, .int .i64 x, .string R, u, .string B] 25) := ⟨_, rfl⟩
    go_enter Tryd.func52, Tryd.ntmps52
    go_wp2
    simp only [← hw0]
    rw [← hw0] at hbk hB0
    clear hw0
    obtain ⟨c0, c1, c2, c3, _, _⟩ := hbk.f6
    clear hbk
    go_loop [3] (fun i => ∃ k : Nat, k ≤ T.size ∧ i = .int .i64 k ∧ ((us T).take k).any blank = false) (fun i => T.size - (intOf i).toNat)
    case atStart => exact ⟨0, Nat.zero_le _, rfl, rfl⟩
    case round =>
      obtain ⟨k, hk, rfl, hb⟩ := hrel
      have HB := Lib.hid hb; clear hb
      by_cases hlt : k < T.size
      · cases hbl : blank T[k]
        · have HN := Lib.hid (any_more T k hlt HB.out hbl)
          rw [blank_of] at hbl
          go_wp2_with (go_at_call 65; refine (classR_c _ _).mono ?_; rintro e w' ⟨rfl, rfl⟩)
          go_round
          case rel => exact ⟨k + 1, by omega, by go_num, HN.out⟩
          case measure => simp [intOf]; omega
        · have HN := Lib.hid (hVb.out (any_hit T k hlt hbl))
          rw [blank_of] at hbl
          go_wp2_with (go_at_call 65; refine (classR_c _ _).mono ?_; rintro e w' ⟨rfl, rfl⟩)
          go_ret
          exact ⟨ret_bool HN.out.symm, hB0⟩
      · have hV := hVg.out (by rw [← take_all T k (by omega)]; exact HB.out)
        clear HB
        by_cases x0 : x = 0 <;> by_cases rz : R.size = 0 <;> by_cases tz : T.size = 0
        all_goals
          cases hv : token (us M) <;> cases ht : visS (us T)
          all_goals
            rw [hv] at H1 hV
            rw [ht] at H2 hV
            first
              | (have x2 : (x == 0) = true := by simpa using x0)
              | (have x2 : (x == 0) = false := by simpa using x0)
            rw [x2] at hV
            first
              | rw [decide_eq_true rz] at hV
              | rw [decide_eq_false rz] at hV
            first
              | rw [decide_eq_true tz] at hV
              | rw [decide_eq_false tz] at hV
            have HV := Lib.hid hV
            clear hv ht hV x0
            first
              | (have q1 := isEmpty_f rz; have q2 := ne_empty rz)
              | (have q1 := (isEmpty_us R).trans (decide_eq_true rz); have q2 := eq_empty rz)
            first
              | (have q3 := isEmpty_f tz; have q4 := ne_empty tz)
              | (have q3 := (isEmpty_us T).trans (decide_eq_true tz); have q4 := eq_empty tz)
            go_wp2_with (first | (go_at_call 39; refine (H1.out _).mono ?_; rintro e wx ⟨rfl, rfl⟩) | (go_at_call 40; refine (H2.out _).mono ?_; rintro e wx ⟨rfl, rfl⟩))
            go_ret
            exact ⟨ret_bool (by rw [HV.out]; rfl), hB0⟩

end Go.Proofs.YtgpbnbaegghajaaDoor
