/-
  The reference's Trim; numbers read and written, of the program and of the reference.
-/
import Derived.Test.YteiafgoigfehgaaDoorScanC
namespace Go.Proofs.YteiafgoigfehgaaDoor
open Go.RowKit

theorem cut_cons (s : ByteArray) (k m : Nat) (h : k < m) (hm : m ≤ s.size) : ((us s).drop k).take (m - k) = s[k] :: ((us s).drop (k + 1)).take (m - (k + 1)) := by
  rw [drop_us s k (by omega)]
  obtain ⟨d, hd⟩ : ∃ d, m - k = d + 1 := ⟨m - k - 1, by omega⟩
  rw [hd, List.take_succ_cons]
  congr 2; omega
theorem cut_snoc (s : ByteArray) (k m : Nat) (h : k < m) (hm : m ≤ s.size) : ((us s).drop k).take (m - k) = ((us s).drop k).take (m - 1 - k) ++ [s[m - 1]] := by
  obtain ⟨d, hd⟩ : ∃ d, m - k = d + 1 := ⟨m - k - 1, by omega⟩
  have hd' : m - 1 - k = d := by omega
  rw [hd, hd', List.take_add_one]
  congr 1
  rw [List.getElem?_drop]
  have : k + d = m - 1 := by omega
  rw [this, get_us s (m - 1) (by omega)]; rfl

set_option maxHeartbeats 800000 in
theorem trimR_c (s : ByteArray) (hs : s.size ≤ 9223372036854775807) (w : World) :
    Calls Tryd.prog 42 #[.string s] w fun e w' => e = .returned (.string (bs (trim (us s)))) ∧ w = w' := by
  go_enter Tryd.func42, Tryd.ntmps42
  go_wp2
  go_loop [3] (fun v => ∃ k : Nat, k ≤ s.size ∧ v = .int .i64 k ∧ trimL ((us s).drop k) = trimL (us s)) (fun v => s.size - (intOf v).toNat)
  case atStart => exact ⟨0, Nat.zero_le _, rfl, rfl⟩
  case round =>
    obtain ⟨k, hk, rfl, hb⟩ := hrel
    have HB := Lib.hid hb; clear hb
    by_cases hbl : ∃ h : k < s.size, blank s[k] = true
    · obtain ⟨hlt, hbl⟩ := hbl
      have HS := Lib.hid (show trimL ((us s).drop (k + 1)) = trimL (us s) by rw [← HB.out, drop_us s k hlt, trimL_cons, hbl]; rfl)
      rw [blank_of] at hbl
      go_wp2_with (go_at_call 52; refine (classR_c _ _).mono ?_; rintro e w' ⟨rfl, rfl⟩)
      go_round
      case rel => exact ⟨k + 1, by omega, by go_num, HS.out⟩
      case measure => simp [intOf]; omega
    · have HT := Lib.hid (show trimR (((us s).drop k).take (s.size - k)) = trim (us s) by
        have e1 : ((us s).drop k).take (s.size - k) = (us s).drop k := List.take_of_length_le (by rw [List.length_drop, length_us]; omega)
        rw [e1, trim, ← HB.out]
        by_cases h : k < s.size
        · have hf : blank s[k] = false := by simpa using fun hh => hbl ⟨h, hh⟩
          rw [drop_us s k h, trimL_cons, hf]; rfl
        · rw [drop_us_end s k (by omega)]; rfl)
      have hx : (s.size ≤ k) ∨ (∃ h : k < s.size, blank s[k] = false) := by
        by_cases h : k < s.size
        · exact .inr ⟨h, by simpa using fun hh => hbl ⟨h, hh⟩⟩
        · exact .inl (by omega)
      clear hbl HB
      rcases hx with hx | ⟨hlt, hbf⟩
      rotate_left
      rw [blank_of] at hbf
      rotate_left
      all_goals
        go_wp2_with (go_at_call 52; refine (classR_c _ _).mono ?_; rintro e w' ⟨rfl, rfl⟩)
        go_loop [4] (fun v => ∃ m : Nat, k ≤ m ∧ m ≤ s.size ∧ v = .int .i64 m ∧ trimR (((us s).drop k).take (m - k)) = trim (us s)) (fun v => (intOf v).toNat)
        case atStart => exact ⟨s.size, hk, Nat.le_refl _, rfl, HT.out⟩
        case round =>
          obtain ⟨m, hm1, hm2, rfl, hb⟩ := hrel
          have HB := Lib.hid hb; clear hb HT
          by_cases hbr : ∃ h : k < m, blank s[m - 1] = true
          · obtain ⟨hlt, hbr⟩ := hbr
            have HS := Lib.hid (show trimR (((us s).drop k).take (m - 1 - k)) = trim (us s) by rw [← HB.out, cut_snoc s k m hlt hm2, trimR_snoc, hbr]; rfl)
            rw [blank_of] at hbr
            first
              | (exfalso; omega)
              | (go_wp2_with (go_at_call 52; refine (classR_c _ _).mono ?_; rintro e w' ⟨rfl, rfl⟩)
                 go_round
                 case rel => exact ⟨m - 1, by omega, by omega, by simp; omega, HS.out⟩
                 case measure => simp [intOf]; omega)
          · have HT := Lib.hid (show ((us s).drop k).take (m - k) = trim (us s) by
              rw [← HB.out]
              by_cases h : k < m
              · have hf : blank s[m - 1] = false := by simpa using fun hh => hbr ⟨h, hh⟩
                rw [cut_snoc s k m h hm2, trimR_snoc, hf]; rfl
              · have : m - k = 0 := by omega
                rw [this, List.take_zero]; rfl)
            have hx : (m ≤ k) ∨ (∃ h : k < m, blank s[m - 1] = false) := by
              by_cases h : k < m
              · exact .inr ⟨h, by simpa using fun hh => hbr ⟨h, hh⟩⟩
              · exact .inl (by omega)
            clear hbr HB
            rcases hx with hx | ⟨hlt, hbf⟩
            · go_wp2
              go_ret
              exact ⟨ret_bs (by rw [us_extract, HT.out]), rfl⟩
            · rw [blank_of] at hbf
              first
                | (exfalso; omega)
                | (go_wp2_with (go_at_call 52; refine (classR_c _ _).mono ?_; rintro e w' ⟨rfl, rfl⟩)
                   go_ret
                   exact ⟨ret_bs (by rw [us_extract, HT.out]), rfl⟩)

/-! numbers -/
theorem digit_of (c : UInt8) : testc 1 c = true → 48 ≤ c.toNat ∧ c.toNat ≤ 57 :=
  all_bytes (fun c => testc 1 c = true → 48 ≤ c.toNat ∧ c.toNat ≤ 57) (by decide +kernel) c
theorem digit_is (c : UInt8) : 48 ≤ c.toNat ∧ c.toNat ≤ 57 → testc 1 c = true :=
  all_bytes (fun c => 48 ≤ c.toNat ∧ c.toNat ≤ 57 → testc 1 c = true) (by decide +kernel) c
theorem digits_at (s : ByteArray) (h : allc 1 (us s) = true) (k : Nat) (hk : k < s.size) : 48 ≤ s[k].toNat ∧ s[k].toNat ≤ 57 := by
  have := List.all_eq_true.1 h s[k] (List.mem_of_getElem? (get_us s k hk))
  exact digit_of _ this
theorem numGo_drop (s : ByteArray) (most n : Int) (k : Nat) (h : k < s.size) :
    numGo most ((us s).drop k) n = if most < (s[k].toNat : Int) - 48 ∨ (most - ((s[k].toNat : Int) - 48)) / 10 < n then (0, 9) else numGo most ((us s).drop (k + 1)) (10 * n + ((s[k].toNat : Int) - 48)) := by
  rw [drop_us s k h]; rfl
theorem number_ok (s : ByteArray) (most : Int) (hz : s.size ≠ 0) (h : allc 1 (us s) = true) : number (us s) most = numGo most (us s) 0 := by
  unfold number; rw [if_neg]
  rintro (e | e)
  · have := congrArg List.length e; rw [length_us] at this; exact hz (by simpa using this)
  · rw [h] at e; cases e
theorem ret_two {k k' : IntKind} {a b c d : Int} (h : a = b) (h' : c = d) : Ending.returned (.tuple #[.int k a, .int k' c]) = .returned (.tuple #[.int k b, .int k' d]) := by rw [h, h']

set_option maxHeartbeats 1600000 in
theorem number_c (s : ByteArray) (hs : s.size ≤ 9223372036854775807) (most : Int) (h0 : -9223372036854775808 ≤ most) (h1 : most ≤ 9223372036854775807) (w : World) :
    Calls Tryd.prog 46 #[.string s, .int .i64 most] w fun e w' => e = .returned (.tuple #[.int .i64 (number (us s) most).1, .int .i64 (number (us s) most).2]) ∧ w = w' := by
  by_cases hz : s.size = 0
  · obtain rfl := eq_empty hz
    clear hz hs
    go_enter Tryd.func46, Tryd.ntmps46
    go_wp2
    all_goals (go_ret2; exact ⟨rfl, rfl⟩)
  by_cases ha : allc 1 (us s) = true
  · have HN := Lib.hid (number_ok s most hz ha)
    have HA := Lib.hid ha
    have i1 := isEmpty_f hz
    have i2 := ne_empty hz
    go_enter Tryd.func46, Tryd.ntmps46
    go_wp2_with (go_at_call 61; refine (all_c _ hs _ _).mono ?_; rintro e w' ⟨rfl, rfl⟩)
    clear ha
    go_loop [6, 18] (fun v i => ∃ (k : Nat) (n : Int), k ≤ s.size ∧ i = .int .i64 k ∧ v = .int .i64 n ∧ 0 ≤ n ∧ n ≤ 9223372036854775807 ∧ numGo most ((us s).drop k) n = numGo most (us s) 0) (fun _ i => s.size - (intOf i).toNat)
    case atStart => exact ⟨0, 0, Nat.zero_le _, rfl, rfl, by omega, by omega, rfl⟩
    case round =>
      obtain ⟨k, n, hk, rfl, rfl, n0, n1, hb⟩ := hrel
      have HB := Lib.hid hb; clear hb
      by_cases hlt : k < s.size
      · obtain ⟨d0, d1⟩ := digits_at s HA.out k hlt
        have hd := Lib.hid (numGo_drop s most n k hlt)
        by_cases hc1 : most < (s[k].toNat : Int) - 48
        · go_wp2
          go_ret2
          exact ⟨by rw [HN.out, ← HB.out, hd.out, if_pos (.inl hc1)]; rfl, rfl⟩
        · have hc1' : (s[k].toNat : Int) - 48 ≤ most := by omega
          by_cases hc2 : (most - ((s[k].toNat : Int) - 48)) / 10 < n
          · go_wp2
            go_ret2
            exact ⟨by rw [HN.out, ← HB.out, hd.out, if_pos (.inr hc2)]; rfl, rfl⟩
          · go_wp2
            go_round
            case rel => exact ⟨k + 1, _, by omega, by go_num, rfl, by omega, by omega, by rw [← HB.out, hd.out, if_neg (by omega)]⟩
            case measure => simp [intOf]; omega
      · go_wp2
        go_ret2
        exact ⟨by rw [HN.out, ← HB.out, drop_us_end s k (by omega)]; rfl, rfl⟩
  · have ha' : allc 1 (us s) = false := by simpa using ha
    have HN := Lib.hid (show number (us s) most = (0, 10) by unfold number; rw [if_pos (.inr ha')])
    clear ha
    have i1 := isEmpty_f hz
    have i2 := ne_empty hz
    go_enter Tryd.func46, Tryd.ntmps46
    go_wp2_with (go_at_call 61; refine (all_c _ hs _ _).mono ?_; rintro e w' ⟨rfl, rfl⟩)
    go_ret2
    exact ⟨by rw [HN.out]; rfl, rfl⟩

set_option maxHeartbeats 1600000 in
theorem numberR_c (s : ByteArray) (hs : s.size ≤ 9223372036854775807) (most : Int) (h0 : -9223372036854775808 ≤ most) (h1 : most ≤ 9223372036854775807) (w : World) :
    Calls Tryd.prog 53 #[.string s, .int .i64 most] w fun e w' => e = .returned (.tuple #[.int .i64 (number (us s) most).1, .int .i64 (number (us s) most).2]) ∧ w = w' := by
  by_cases hz : s.size = 0
  · obtain rfl := eq_empty hz
    clear hz hs
    go_enter Tryd.func53, Tryd.ntmps53
    go_wp2
    all_goals (go_ret2; exact ⟨rfl, rfl⟩)
  by_cases ha : allc 1 (us s) = true
  · have HN := Lib.hid (number_ok s most hz ha)
    have HA := Lib.hid ha
    have i1 := isEmpty_f hz
    have i2 := ne_empty hz
    go_enter Tryd.func53, Tryd.ntmps53
    go_wp2_with (go_at_call 62; refine (allR_c _ hs _ _).mono ?_; rintro e w' ⟨rfl, rfl⟩)
    clear ha
    go_loop [6, 7] (fun v i => ∃ (k : Nat) (n : Int), k ≤ s.size ∧ i = .int .i64 k ∧ v = .int .i64 n ∧ 0 ≤ n ∧ n ≤ 9223372036854775807 ∧ numGo most ((us s).drop k) n = numGo most (us s) 0) (fun _ i => s.size - (intOf i).toNat)
    case atStart => exact ⟨0, 0, Nat.zero_le _, rfl, rfl, by omega, by omega, rfl⟩
    case round =>
      obtain ⟨k, n, hk, rfl, rfl, n0, n1, hb⟩ := hrel
      have HB := Lib.hid hb; clear hb
      by_cases hlt : k < s.size
      · obtain ⟨d0, d1⟩ := digits_at s HA.out k hlt
        have hd := Lib.hid (numGo_drop s most n k hlt)
        by_cases hc0 : 922337203685477580 < n
        · go_wp2
          go_ret2
          exact ⟨by rw [HN.out, ← HB.out, hd.out, if_pos (by omega)]; rfl, rfl⟩
        have hc0' : n ≤ 922337203685477580 := by omega
        clear hc0
        by_cases hc1 : most < (s[k].toNat : Int) - 48
        · go_wp2
          go_ret2
          exact ⟨by rw [HN.out, ← HB.out, hd.out, if_pos (.inl hc1)]; rfl, rfl⟩
        · have hc1' : (s[k].toNat : Int) - 48 ≤ most := by omega
          by_cases hc2 : most - ((s[k].toNat : Int) - 48) < 10 * n
          · go_wp2
            go_ret2
            exact ⟨by rw [HN.out, ← HB.out, hd.out, if_pos (by omega)]; rfl, rfl⟩
          · go_wp2
            go_round
            case rel => exact ⟨k + 1, _, by omega, by go_num, rfl, by omega, by omega, by rw [← HB.out, hd.out, if_neg (by omega)]⟩
            case measure => simp [intOf]; omega
      · go_wp2
        go_ret2
        exact ⟨by rw [HN.out, ← HB.out, drop_us_end s k (by omega)]; rfl, rfl⟩
  · have ha' : allc 1 (us s) = false := by simpa using ha
    have HN := Lib.hid (show number (us s) most = (0, 10) by unfold number; rw [if_pos (.inr ha')])
    clear ha
    have i1 := isEmpty_f hz
    have i2 := ne_empty hz
    go_enter Tryd.func53, Tryd.ntmps53
    go_wp2_with (go_at_call 62; refine (allR_c _ hs _ _).mono ?_; rintro e w' ⟨rfl, rfl⟩)
    go_ret2
    exact ⟨by rw [HN.out]; rfl, rfl⟩

end Go.Proofs.YteiafgoigfehgaaDoor
