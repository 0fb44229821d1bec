/-
  head.Call, head.Cseq and the reference's.
-/
import Derived.Test.YteiafgoigfehgaaDoorHeadA
namespace Go.Proofs.YteiafgoigfehgaaDoor
open Go.RowKit

theorem seen_no (c : UInt8) (h : ((c.toNat : Int) ≤ 32) ∨ (127 ≤ (c.toNat : Int))) : seen c = false := by
  unfold seen; rw [Bool.and_eq_false_iff]; simp only [decide_eq_false_iff_not]; omega
theorem seen_yes (c : UInt8) (h1 : ¬ ((c.toNat : Int) ≤ 32)) (h2 : ¬ (127 ≤ (c.toNat : Int))) : seen c = true := by
  unfold seen; rw [Bool.and_eq_true]; simp only [decide_eq_true_eq]; omega
theorem all_found (s : ByteArray) (k : Nat) (h : k < s.size) (hs : seen s[k] = false) : (us s).all seen = false := by
  rw [← Bool.not_eq_true, List.all_eq_true]
  intro hall
  have := hall s[k] (by have := get_us s k h; exact List.mem_of_getElem? this)
  rw [hs] at this; cases this
theorem all_take (s : ByteArray) (k : Nat) (h : k < s.size) (hs : seen s[k] = true) (hp : ((us s).take k).all seen = true) : ((us s).take (k + 1)).all seen = true := by
  rw [take_us s k h, List.all_append, hp]; simp [hs]
theorem callS_no (l : List UInt8) (h : l.length = 0 ∨ 128 < l.length ∨ l.all seen = false) : callS l = false := by
  unfold callS
  rcases h with h | h | h
  · rw [h]; rfl
  · rw [show decide (l.length ≤ 128) = false from decide_eq_false (by omega)]; simp
  · rw [h]; simp
theorem callS_yes (l : List UInt8) (h1 : 1 ≤ l.length) (h2 : l.length ≤ 128) (h3 : l.all seen = true) : callS l = true := by
  unfold callS; rw [h3]; simp [h1, h2]

theorem call_c (s : ByteArray) (hs : s.size ≤ 9223372036854775807) (w : World) :
    Calls Tryd.prog 27 #[.string s] w fun e w' => e = .returned (.bool (callS (us s))) ∧ w = w' := by
  by_cases hz : s.size = 0
  · obtain rfl := eq_empty hz
    go_enter Tryd.func27, Tryd.ntmps27
    go_wp2
    all_goals
      go_ret
      exact ⟨ret_bool (by rfl), rfl⟩
  by_cases hl : 128 < s.size
  · have hE := ne_empty hz
    have hF := isEmpty_f hz
    have HN := Lib.hid (callS_no (us s) (.inr (.inl (by rw [length_us]; exact hl))))
    go_enter Tryd.func27, Tryd.ntmps27
    go_wp2
    all_goals
      go_ret
      exact ⟨ret_bool (by rw [HN.out]), rfl⟩
  have hE := ne_empty hz
  have hF := isEmpty_f hz
  go_enter Tryd.func27, Tryd.ntmps27
  go_wp2
  go_loop [13] (fun i => ∃ k : Nat, k ≤ s.size ∧ i = .int .i64 k ∧ ((us s).take k).all seen = true) (fun i => s.size - (intOf i).toNat)
  case atStart => exact ⟨0, Nat.zero_le _, rfl, rfl⟩
  case round =>
    obtain ⟨k, hk, rfl, hb⟩ := hrel
    have HB := Lib.hid hb; clear hb
    by_cases hlt : k < s.size
    · have hf := Lib.hid (fun h => callS_no (us s) (.inr (.inr (all_found s k hlt h))))
      have ht := Lib.hid (fun h => all_take s k hlt h HB.out)
      by_cases c1 : ((s[k].toNat : Int) ≤ 32)
      · have HN := Lib.hid (hf.out (seen_no _ (.inl c1)))
        go_wp2
        all_goals
          go_ret
          exact ⟨ret_bool (by rw [HN.out]), rfl⟩
      · by_cases c2 : (127 ≤ (s[k].toNat : Int))
        · have HN := Lib.hid (hf.out (seen_no _ (.inr c2)))
          go_wp2
          all_goals
            go_ret
            exact ⟨ret_bool (by rw [HN.out]), rfl⟩
        · have HN := Lib.hid (ht.out (seen_yes _ c1 c2))
          go_wp2
          go_round
          case rel => exact ⟨k + 1, by omega, by go_num, HN.out⟩
          case measure => simp [intOf]; omega
    · have HY := Lib.hid (callS_yes (us s) (by rw [length_us]; omega) (by rw [length_us]; omega) (by rw [← take_all s k (by omega)]; exact HB.out))
      go_wp2
      all_goals
        go_ret
        exact ⟨ret_bool (by rw [HY.out]), rfl⟩

theorem callR_c (s : ByteArray) (hs : s.size ≤ 9223372036854775807) (w : World) :
    Calls Tryd.prog 28 #[.string s] w fun e w' => e = .returned (.bool (callS (us s))) ∧ w = w' := by
  go_enter Tryd.func28, Tryd.ntmps28
  go_wp2
  go_loop [3] (fun i => ∃ k : Nat, k ≤ s.size ∧ i = .int .i64 k ∧ ((us s).take k).all seen = true) (fun i => s.size - (intOf i).toNat)
  case atStart => exact ⟨0, Nat.zero_le _, rfl, rfl⟩
  case round =>
    obtain ⟨k, hk, rfl, hb⟩ := hrel
    have HB := Lib.hid hb; clear hb
    by_cases hlt : k < s.size
    · have hf := Lib.hid (fun h => callS_no (us s) (.inr (.inr (all_found s k hlt h))))
      have ht := Lib.hid (fun h => all_take s k hlt h HB.out)
      by_cases c1 : ((s[k].toNat : Int) < 33)
      · have HN := Lib.hid (hf.out (seen_no _ (.inl (by omega))))
        go_wp2
        all_goals
          go_ret
          exact ⟨ret_bool (by rw [HN.out]), rfl⟩
      · by_cases c2 : (126 < (s[k].toNat : Int))
        · have HN := Lib.hid (hf.out (seen_no _ (.inr (by omega))))
          go_wp2
          all_goals
            go_ret
            exact ⟨ret_bool (by rw [HN.out]), rfl⟩
        · have HN := Lib.hid (ht.out (seen_yes _ (by omega) (by omega)))
          go_wp2
          go_round
          case rel => exact ⟨k + 1, by omega, by go_num, HN.out⟩
          case measure => simp [intOf]; omega
    · have HA := Lib.hid (show (us s).all seen = true by rw [← take_all s k (by omega)]; exact HB.out)
      by_cases h1 : 1 ≤ s.size <;> by_cases h2 : s.size ≤ 128
      · have HY := Lib.hid (callS_yes (us s) (by rw [length_us]; omega) (by rw [length_us]; omega) HA.out)
        go_wp2
        all_goals
          go_ret
          exact ⟨ret_bool (by rw [HY.out]; try (first | (simp; omega) | simp)), rfl⟩
      all_goals
        have HN := Lib.hid (callS_no (us s) (by rw [length_us]; omega))
        go_wp2
        all_goals
          go_ret
          exact ⟨ret_bool (by rw [HN.out]; try (first | (simp; omega) | simp)), rfl⟩

end Go.Proofs.YteiafgoigfehgaaDoor
