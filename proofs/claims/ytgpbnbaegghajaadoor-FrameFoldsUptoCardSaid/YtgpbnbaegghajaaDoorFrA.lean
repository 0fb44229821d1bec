/-
  frame.visible, value, Long, length, target and the reference's: each computes the plain function of its name.
-/
import Derived.Test.YtgpbnbaegghajaaDoorFrS
import Derived.Test.YtgpbnbaegghajaaDoorAny
namespace Go.Proofs.YtgpbnbaegghajaaDoor
open Go.RowKit

theorem all_bad (P : UInt8 → Bool) (s : ByteArray) (k : Nat) (h : k < s.size) (hs : P s[k] = false) : (us s).all P = false := by
  rw [← Bool.not_eq_true, List.all_eq_true]
  intro hall
  have := hall s[k] (by have := get_us s k h; exact List.mem_of_getElem? this)
  rw [hs] at this; cases this
theorem all_more (P : UInt8 → Bool) (s : ByteArray) (k : Nat) (h : k < s.size) (hs : P s[k] = true) (hp : ((us s).take k).all P = true) : ((us s).take (k + 1)).all P = true := by
  rw [take_us s k h, List.all_append, hp]; simp [hs]
theorem all_whole (P : UInt8 → Bool) (s : ByteArray) (k : Nat) (h : s.size ≤ k) (hp : ((us s).take k).all P = true) : (us s).all P = true := by
  rw [← take_all s k h]; exact hp
theorem vis_no (c : UInt8) (h : ¬ ((c.toNat : Int) = 9) ∧ ((c.toNat : Int) < 32 ∨ (c.toNat : Int) = 127)) : vis c = false := by
  unfold vis
  simp only [Bool.or_eq_false_iff, Bool.and_eq_false_iff, beq_eq_false_iff_ne, decide_eq_false_iff_not, Bool.not_eq_false', beq_iff_eq]
  omega
theorem vis_yes (c : UInt8) (h : ((c.toNat : Int) = 9) ∨ (¬ (c.toNat : Int) < 32 ∧ ¬ (c.toNat : Int) = 127)) : vis c = true := by
  unfold vis
  simp only [Bool.or_eq_true, Bool.and_eq_true, beq_iff_eq, decide_eq_true_eq, Bool.not_eq_true', beq_eq_false_iff_ne]
  omega

set_option maxHeartbeats 800000 in
theorem visible_c (s : ByteArray) (hs : s.size ≤ 9223372036854775807) (w : World) :
    Calls Tryd.prog 31 #[.string s] w fun e w' => e = .returned (.bool (visS (us s))) ∧ w = w' := by
  go_enter Tryd.func31, Tryd.ntmps31
  go_wp2
  go_loop [6] (fun i => ∃ k : Nat, k ≤ s.size ∧ i = .int .i64 k ∧ ((us s).take k).all vis = true) (fun i => s.size - (intOf i).toNat)
  case atStart => exact ⟨0, Nat.zero_le _, rfl, rfl⟩
  case round =>
    obtain ⟨k, hk, rfl, hb⟩ := hrel
    have HB := Lib.hid hb; clear hb
    by_cases hlt : k < s.size
    · have hf := Lib.hid (fun h => all_bad vis s k hlt h)
      have ht := Lib.hid (fun h => all_more vis s k hlt h HB.out)
      have n1 := Lib.hid (vis_no s[k])
      have n2 := Lib.hid (vis_yes s[k])
      by_cases c0 : ((s[k].toNat : Int) = 9)
      · have HN := Lib.hid (ht.out (n2.out (.inl c0)))
        have C0 := Lib.hid c0
        have e0 : ((s[k].toNat : Int) != 9) = false := by simpa using c0
        clear c0
        go_wp2
        go_round
        case rel => exact ⟨k + 1, by omega, by go_num, HN.out⟩
        case measure => simp [intOf]; omega
      · have e0 : ((s[k].toNat : Int) != 9) = true := by simpa using c0
        by_cases c1 : ((s[k].toNat : Int) < 32)
        · have HN := Lib.hid (hf.out (n1.out ⟨c0, .inl c1⟩))
          clear c0
          go_wp2
          go_ret
          exact ⟨ret_bool HN.out.symm, rfl⟩
        · by_cases c2 : ((s[k].toNat : Int) = 127)
          · have HN := Lib.hid (hf.out (n1.out ⟨c0, .inr c2⟩))
            have e2 : ((s[k].toNat : Int) == 127) = true := by simpa using c2
            clear c0 c2
            go_wp2
            go_ret
            exact ⟨ret_bool HN.out.symm, rfl⟩
          · have HN := Lib.hid (ht.out (n2.out (.inr ⟨c1, c2⟩)))
            have e2 : ((s[k].toNat : Int) == 127) = false := by simpa using c2
            clear c0 c2
            go_wp2
            go_round
            case rel => exact ⟨k + 1, by omega, by go_num, HN.out⟩
            case measure => simp [intOf]; omega
    · have HN := Lib.hid (all_whole vis s k (by omega) HB.out)
      go_wp2
      go_ret
      exact ⟨ret_bool HN.out.symm, rfl⟩

set_option maxHeartbeats 800000 in
theorem visR_c (s : ByteArray) (hs : s.size ≤ 9223372036854775807) (w : World) :
    Calls Tryd.prog 40 #[.string s] w fun e w' => e = .returned (.bool (visS (us s))) ∧ w = w' := by
  go_enter Tryd.func40, Tryd.ntmps40
  go_wp2
  go_loop [3] (fun i => ∃ k : Nat, k ≤ s.size ∧ i = .int .i64 k ∧ ((us s).take k).all vis = true) (fun i => s.size - (intOf i).toNat)
  case atStart => exact ⟨0, Nat.zero_le _, rfl, rfl⟩
  case round =>
    obtain ⟨k, hk, rfl, hb⟩ := hrel
    have HB := Lib.hid hb; clear hb
    by_cases hlt : k < s.size
    · have hf := Lib.hid (fun h => all_bad vis s k hlt h)
      have ht := Lib.hid (fun h => all_more vis s k hlt h HB.out)
      have n1 := Lib.hid (vis_no s[k])
      have n2 := Lib.hid (vis_yes s[k])
      by_cases c0 : ((s[k].toNat : Int) = 9)
      · have HN := Lib.hid (ht.out (n2.out (.inl c0)))
        have c1 : ((s[k].toNat : Int) < 32) := by omega
        have e0 : ((s[k].toNat : Int) != 9) = false := by simpa using c0
        have e2 : ((s[k].toNat : Int) == 127) = false := by simp; omega
        clear c0
        go_wp2
        go_round
        case rel => exact ⟨k + 1, by omega, by go_num, HN.out⟩
        case measure => simp [intOf]; omega
      · have e0 : ((s[k].toNat : Int) != 9) = true := by simpa using c0
        by_cases c1 : ((s[k].toNat : Int) < 32)
        · have HN := Lib.hid (hf.out (n1.out ⟨c0, .inl c1⟩))
          clear c0
          go_wp2
          go_ret
          exact ⟨ret_bool HN.out.symm, rfl⟩
        · by_cases c2 : ((s[k].toNat : Int) = 127)
          · have HN := Lib.hid (hf.out (n1.out ⟨c0, .inr c2⟩))
            have e2 : ((s[k].toNat : Int) == 127) = true := by simpa using c2
            clear c0 c2
            go_wp2
            go_ret
            exact ⟨ret_bool HN.out.symm, rfl⟩
          · have HN := Lib.hid (ht.out (n2.out (.inr ⟨c1, c2⟩)))
            have e2 : ((s[k].toNat : Int) == 127) = false := by simpa using c2
            clear c0 c2
            go_wp2
            go_round
            case rel => exact ⟨k + 1, by omega, by go_num, HN.out⟩
            case measure => simp [intOf]; omega
    · have HN := Lib.hid (all_whole vis s k (by omega) HB.out)
      go_wp2
      go_ret
      exact ⟨ret_bool HN.out.symm, rfl⟩

theorem valS_of (s : ByteArray) (b c : Bool) (h1 : visS (us s) = b) (h2 : ((bs (trim (us s))).toList == s.toList) = c) : valS (us s) = (b && c) := by
  unfold valS
  rw [h1, ← h2, toList_bs, toList_us]
theorem value_c' (s : ByteArray) (hs : s.size ≤ 9223372036854775807) (w : World) :
    Calls Tryd.prog 51 #[.string s] w fun e w' => e = .returned (.bool (valS (us s))) ∧ w = w' := by
  have H1 := Lib.hid (fun wx => visible_c s hs wx)
  have H2 := Lib.hid (fun wx => trim_c s hs wx)
  have hv := valS_of s _ _ rfl rfl
  obtain ⟨t, ht⟩ : ∃ t, t = bs (trim (us s)) := ⟨_, rfl⟩
  rw [← ht] at H2 hv
  clear ht
  cases h1 : visS (us s) <;> cases h2 : (t.toList == s.toList)
  all_goals
    rw [h1] at H1 hv
    rw [h2] at hv
    have HV := Lib.hid hv
    clear h1 hv
    go_enter Tryd.func51, Tryd.ntmps51
    go_wp2_with (first | (go_at_call 31; refine (H1.out _).mono ?_; rintro e wx ⟨rfl, rfl⟩) | (go_at_call 29; refine (H2.out _).mono ?_; rintro e wx ⟨rfl, rfl⟩))
    go_ret
    exact ⟨ret_bool HV.out.symm, rfl⟩
theorem valueR_c' (s : ByteArray) (hs : s.size ≤ 9223372036854775807) (w : World) :
    Calls Tryd.prog 53 #[.string s] w fun e w' => e = .returned (.bool (valS (us s))) ∧ w = w' := by
  have H1 := Lib.hid (fun wx => visR_c s hs wx)
  have H2 := Lib.hid (fun wx => trimR_c s hs wx)
  have hv := valS_of s _ _ rfl rfl
  obtain ⟨t, ht⟩ : ∃ t, t = bs (trim (us s)) := ⟨_, rfl⟩
  rw [← ht] at H2 hv
  clear ht
  cases h1 : visS (us s) <;> cases h2 : (t.toList == s.toList)
  all_goals
    rw [h1] at H1 hv
    rw [h2] at hv
    have HV := Lib.hid hv
    clear h1 hv
    go_enter Tryd.func53, Tryd.ntmps53
    go_wp2_with (first | (go_at_call 40; refine (H1.out _).mono ?_; rintro e wx ⟨rfl, rfl⟩) | (go_at_call 38; refine (H2.out _).mono ?_; rintro e wx ⟨rfl, rfl⟩))
    go_ret
    exact ⟨ret_bool HV.out.symm, rfl⟩

end Go.Proofs.YtgpbnbaegghajaaDoor
