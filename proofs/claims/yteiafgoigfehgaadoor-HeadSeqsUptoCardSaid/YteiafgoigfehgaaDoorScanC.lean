/-
  Lower, Same of the program and of the reference.
-/
import Derived.Test.YteiafgoigfehgaaDoorScanB
import Derived.Test.YteiafgoigfehgaaDoorMem
namespace Go.Proofs.YteiafgoigfehgaaDoor
open Go.RowKit

theorem infoB : infoIs Tryd.prog 5 (.int .u8 0) 1 1 := by unfold infoIs; kernel_rfl
theorem low_up (c : UInt8) (h : 65 ≤ c.toNat ∧ c.toNat ≤ 90) : (low c).toNat = c.toNat + 32 := by rw [low_toNat, if_pos h]
theorem low_no (c : UInt8) (h : ¬ (65 ≤ c.toNat ∧ c.toNat ≤ 90)) : low c = c := by unfold low; rw [if_neg h]
theorem lowr_take (s : ByteArray) (k : Nat) (h : k < s.size) : lowr ((us s).take (k + 1)) = lowr ((us s).take k) ++ [low s[k]] := by
  rw [take_us s k h]; simp [lowr]
theorem lowr_len (l : List UInt8) : (lowr l).length = l.length := by simp [lowr]
theorem take_all (s : ByteArray) (k : Nat) (h : s.size ≤ k) : (us s).take k = us s := List.take_of_length_le (by rw [length_us]; exact h)
theorem take_len (s : ByteArray) (k : Nat) (h : k ≤ s.size) : ((us s).take k).length = k := by rw [List.length_take, length_us]; omega

set_option maxHeartbeats 800000 in
theorem lowerR_c (s : ByteArray) (hs : s.size ≤ 140737488355328) (w : World) :
    Calls Tryd.prog 41 #[.string s] w fun e w' => e = .returned (.string (bs (lowr (us s)))) ∧ Below w.heap.size w w' := by
  go_enter Tryd.func41, Tryd.ntmps41
  go_wp2
  go_loopw [3, 4] (fun v i wr => ∃ k : Nat, k ≤ s.size ∧ i = .int .i64 k ∧ Byt wr w.heap.size 5 v (lowr ((us s).take k)) ∧ Below w.heap.size w wr) (fun _ i _ => s.size - (intOf i).toNat)
  case atStart => exact ⟨0, Nat.zero_le _, rfl, Byt.nil _ _ _, Below.refl _ _⟩
  case round =>
    obtain ⟨k, hk, rfl, hown, hB⟩ := hrel
    have HL := Lib.hid ((lowr_len ((us s).take k)).trans (take_len s k hk))
    by_cases hlt : k < s.size
    · have ht := Lib.hid (lowr_take s k hlt)
      by_cases hu : 65 ≤ s[k].toNat ∧ s[k].toNat ≤ 90
      · have hx := Lib.hid (low_up s[k] hu)
        obtain ⟨hu1, hu2⟩ := hu
        go_wp2_with (at_builtin; refine wpList_appB1 (low s[k]) ?_ rfl rfl Tryd.underlying73 infoB rfl rfl hown hB (Nat.le_refl _) ?_ ?_; (focus (rw [hx.out]; omega)); (focus (rw [HL.out]; omega)); intro v1 w1 ho1 hb1)
        go_roundw
        case rel => exact ⟨k + 1, by omega, by go_num, ho1.cast ht.out.symm, hb1⟩
        case measure => simp [intOf]; omega
      · have hx := Lib.hid (low_no s[k] hu)
        have hu' : s[k].toNat < 65 ∨ 90 < s[k].toNat := by omega
        clear hu
        rcases hu' with hu | hu
        all_goals
          go_wp2_with (at_builtin; refine wpList_appB1 (low s[k]) ?_ rfl rfl Tryd.underlying73 infoB rfl rfl hown hB (Nat.le_refl _) ?_ ?_; (focus (rw [hx.out])); (focus (rw [HL.out]; omega)); intro v1 w1 ho1 hb1)
          go_roundw
          case rel => exact ⟨k + 1, by omega, by go_num, ho1.cast ht.out.symm, hb1⟩
          case measure => simp [intOf]; omega
    · go_wp2_with (refine wpList_str rfl rfl Tryd.underlying73 Tryd.underlying5 Tryd.underlying9 rfl hown ?_)
      go_ret
      exact ⟨ret_str (by first | rfl | rw [take_all s k (by omega)]), hB⟩

@[simp] theorem toList_bs (l : List UInt8) : (bs l).toList = l := by rw [toList_us, us_bs]
theorem low_mix (s : ByteArray) (k : Nat) (h : k < s.size) :
    (lowr ((us s).take k) ++ (us s).drop k)[k]? = some s[k] := by
  rw [List.getElem?_append_right (by rw [lowr_len, take_len s k (by omega)]; omega), lowr_len, take_len s k (by omega)]
  simp [drop_us s k h]
theorem low_mix_set (s : ByteArray) (k : Nat) (h : k < s.size) :
    (lowr ((us s).take k) ++ (us s).drop k).set k (low s[k]) = lowr ((us s).take (k + 1)) ++ (us s).drop (k + 1) := by
  rw [lowr_take s k h, drop_us s k h, List.set_append_right _ _ (by rw [lowr_len, take_len s k (by omega)]; omega), lowr_len, take_len s k (by omega)]
  simp
theorem low_mix_len (s : ByteArray) (k : Nat) (h : k ≤ s.size) : (lowr ((us s).take k) ++ (us s).drop k).length = s.size := by
  rw [List.length_append, lowr_len, take_len s k h, List.length_drop, length_us]; omega
theorem bytesAt.cell? {w : World} {e : TypeId} {g : Nat} {l : List UInt8} (h : bytesAt w e g l) (j : Nat) {c : UInt8} (hj : l[j]? = some c) : w.cell? ⟨g, j, none⟩ = some (.int .u8 c.toNat) := by
  obtain ⟨hj1, hj2⟩ := List.getElem?_eq_some_iff.1 hj
  rw [h.cell j hj1, hj2]; rfl

set_option maxHeartbeats 800000 in
theorem lowerP_c (s : ByteArray) (hs : s.size ≤ 9223372036854775807) (w : World) :
    Calls Tryd.prog 36 #[.string s] w fun e w' => e = .returned (.string (bs (lowr (us s)))) ∧ Below w.heap.size w w' := by
  go_enter Tryd.func36, Tryd.ntmps36
  go_wp2_with (refine wpList_bytes rfl rfl Tryd.underlying9 Tryd.underlying73 Tryd.underlying5 rfl ?_; intro cap w1 hb1 hB1 hlt1 hcap1)
  go_loopw [9] (fun i wr => ∃ k : Nat, k ≤ s.size ∧ i = .int .i64 k ∧ bytesAt wr 5 w.heap.size (lowr ((us s).take k) ++ (us s).drop k) ∧ Below w.heap.size w wr) (fun i _ => s.size - (intOf i).toNat)
  case atStart => exact ⟨0, Nat.zero_le _, rfl, by simpa [lowr] using hb1, hB1⟩
  case round =>
    obtain ⟨k, hk, rfl, hb, hB⟩ := hrel
    by_cases hlt : k < s.size
    · have hc := hb.cell? k (low_mix s k hlt)
      have hlen := low_mix_len s k hk
      have hf := hb.free k (by omega)
      have hset := hb.set k (by omega) (low s[k])
      rw [low_mix_set s k hlt] at hset
      have HSET := Lib.hid hset
      clear hset hlen hb
      go_wp2_with (go_at_call 58; refine (lower_c _ _).mono ?_; rintro e w' ⟨rfl, rfl⟩)
      go_roundw
      case rel => exact ⟨k + 1, by omega, by go_num, HSET.out, hB.setCell (Nat.le_refl _) _⟩
      case measure => simp [intOf]; omega
    · have HB := Lib.hid hb
      clear hb
      have hkk : k = s.size := by omega
      have HK := Lib.hid (show lowr ((us s).take k) ++ (us s).drop k = lowr (us s) by rw [take_all s k (by omega), drop_us_end s k (by omega), List.append_nil])
      clear hkk
      go_wp2_with (refine wpList_strAt (l := lowr (us s)) rfl rfl Tryd.underlying73 Tryd.underlying5 Tryd.underlying9 rfl (by rw [lowr_len, length_us]) ?_ ?_; (focus (intro j hj; rw [Nat.zero_add]; exact (HK.out ▸ HB.out).cell j hj)))
      go_ret
      exact ⟨rfl, hB⟩

theorem sameR_c (s t : ByteArray) (hs : s.size ≤ 140737488355328) (ht : t.size ≤ 140737488355328) (w : World) :
    Calls Tryd.prog 79 #[.string s, .string t] w fun e w' => e = .returned (.bool (same (us s) (us t))) ∧ Below w.heap.size w w' := by
  go_enter Tryd.func79, Tryd.ntmps79
  go_wp2_with fail
  refine (lowerR_c s hs _).mono ?_
  rintro e w1 ⟨rfl, hB1⟩
  go_wp2_with fail
  refine (lowerR_c t ht _).mono ?_
  rintro e w2 ⟨rfl, hB2⟩
  go_wp2_with fail
  go_ret
  exact ⟨ret_bool (by simp [same]), hB1.trans (hB2.mono hB1.size)⟩

theorem same_drop (s t : ByteArray) (k : Nat) (h : k < s.size) (h' : k < t.size) :
    (lowr ((us s).drop k) == lowr ((us t).drop k)) = ((low s[k] == low t[k]) && (lowr ((us s).drop (k + 1)) == lowr ((us t).drop (k + 1)))) := by
  rw [drop_us s k h, drop_us t k h']; rfl
theorem u8_ne (a b : UInt8) : (((a.toNat : Nat) : Int) != ((b.toNat : Nat) : Int)) = !(a == b) := by
  rw [Bool.eq_iff_iff]
  simp
  constructor
  · intro h e; exact h (by rw [e])
  · intro h e; exact h (UInt8.toNat_inj.1 (by omega))

set_option maxHeartbeats 800000 in
theorem same_c (s t : ByteArray) (hs : s.size ≤ 9223372036854775807) (_ht : t.size ≤ 9223372036854775807) (w : World) :
    Calls Tryd.prog 78 #[.string s, .string t] w fun e w' => e = .returned (.bool (same (us s) (us t))) ∧ Drn w w' := by
  by_cases hne : s.size = t.size
  · have HE := Lib.hid hne
    have hle1 : s.size ≤ t.size := by omega
    have hle2 : t.size ≤ s.size := by omega
    have hn : ((s.size : Int) != (t.size : Int)) = false := by simp [hne]
    clear hne
    go_enter Tryd.func78, Tryd.ntmps78
    go_wp2
    go_loopw [13] (fun i wr => ∃ k : Nat, k ≤ s.size ∧ i = .int .i64 k ∧ Drn w wr ∧ (lowr ((us s).drop k) == lowr ((us t).drop k)) = same (us s) (us t)) (fun i _ => s.size - (intOf i).toNat)
    case atStart => exact ⟨0, Nat.zero_le _, rfl, Drn.refl _, rfl⟩
    case round =>
      obtain ⟨k, hk, rfl, hD, hb⟩ := hrel
      have HB := Lib.hid hb; clear hb
      by_cases hlt : k < s.size
      · have hlt' : k < t.size := by omega
        have hd := Lib.hid (same_drop s t k hlt hlt')
        have k0 : (0 : Int) ≤ (k : Int) := by omega
        have k1 : (k : Int) < (s.size : Int) := by omega
        have k2 : (k : Int) < (t.size : Int) := by omega
        by_cases hq : (low s[k] == low t[k]) = true
        · have HQ := Lib.hid hq
          have hu := u8_ne (low s[k]) (low t[k])
          rw [hq] at hu
          clear hq
          go_wp2
          go_quiet ((go_at_call 58; exact quiet_same (lower_c _ _)))
          go_wp2
          go_roundw
          case rel => exact ⟨k + 1, by omega, by go_num, hD.step _, by rw [← HB.out, hd.out, HQ.out]; rfl⟩
          case measure => simp [intOf]; omega
        · have hq' : (low s[k] == low t[k]) = false := by simpa using hq
          have HQ := Lib.hid hq'
          have hu := u8_ne (low s[k]) (low t[k])
          rw [hq'] at hu
          clear hq hq'
          go_wp2
          go_quiet ((go_at_call 58; exact quiet_same (lower_c _ _)))
          go_wp2
          go_ret
          exact ⟨ret_bool (by rw [← HB.out, hd.out, HQ.out]; rfl), hD.step _⟩
      · go_wp2
        go_ret
        exact ⟨ret_bool (by rw [← HB.out, drop_us_end s k (by omega), drop_us_end t k (by omega)]; rfl), hD⟩
  · have hn : ((s.size : Int) != (t.size : Int)) = true := by simp; omega
    have HN := Lib.hid (show same (us s) (us t) = false by
      rw [same, beq_eq_false_iff_ne]
      intro e
      have := congrArg List.length e
      rw [lowr_len, lowr_len, length_us, length_us] at this
      exact hne this)
    clear hne
    go_enter Tryd.func78, Tryd.ntmps78
    go_wp2
    go_ret
    exact ⟨ret_bool HN.out.symm, Drn.refl _⟩

end Go.Proofs.YteiafgoigfehgaaDoor
