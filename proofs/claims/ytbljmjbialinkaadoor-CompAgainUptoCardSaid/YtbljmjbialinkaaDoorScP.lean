/-
  The small functions of layer 1, of the program and of the reference: each by its own contract.
  Trim, Number, Same of the program and of the reference: what they compute.
  Lower, Same of the program and of the reference.
  The reference's Trim; numbers read and written, of the program and of the reference.
-/
import Derived.Test.YtbljmjbialinkaaDoorCls
import Derived.Deep.QuietTactic
import Derived.BigQuiet
import Derived.Lib.IndexBytes
import Derived.Test.YtbljmjbialinkaaDoorBase
namespace Go.Proofs.YtbljmjbialinkaaDoor

section
open Go.RowKit

theorem low_toNat (c : UInt8) : (low c).toNat = if 65 ≤ c.toNat ∧ c.toNat ≤ 90 then c.toNat + 32 else c.toNat :=
  all_bytes (fun c => (low c).toNat = if 65 ≤ c.toNat ∧ c.toNat ≤ 90 then c.toNat + 32 else c.toNat) (by decide +kernel) c
theorem ret_int {k : IntKind} {a b : Int} (h : a = b) : Ending.returned (.int k a) = .returned (.int k b) := by rw [h]
theorem ret_bool {a b : Bool} (h : a = b) : Ending.returned (.bool a) = .returned (.bool b) := by rw [h]
theorem ret_str {a b : ByteArray} (h : a = b) : Ending.returned (.string a) = .returned (.string b) := by rw [h]

set_option maxHeartbeats 400000 in
theorem lower_c (c : UInt8) (w : World) :
    Calls Tryd.prog 40 #[.int .u8 c.toNat] w fun e w' => e = .returned (.int .u8 (low c).toNat) ∧ w = w' := by
  have hl := Lib.hid (low_toNat c)
  have hc := c.toNat_lt
  by_cases h : 65 ≤ c.toNat ∧ c.toNat ≤ 90
  · obtain ⟨h1, h2⟩ := h
    go_enter Tryd.func40, Tryd.ntmps40
    go_wp2
    go_ret
    exact ⟨ret_int (by rw [hl.out, if_pos ⟨h1, h2⟩]; omega), rfl⟩
  · have hl' := Lib.hid ((low_toNat c).trans (if_neg h))
    clear hl
    have h' : c.toNat < 65 ∨ 90 < c.toNat := by omega
    clear h
    rcases h' with h' | h'
    all_goals
      go_enter Tryd.func40, Tryd.ntmps40
      go_wp2
      all_goals (go_ret; exact ⟨ret_int (by rw [hl'.out]), rfl⟩)

theorem bare_iff (c : UInt8) : bare c = true ↔ c.toNat ≠ 34 ∧ c.toNat ≠ 92 ∧ c.toNat ≠ 127 ∧ (32 ≤ c.toNat ∨ c.toNat = 9) := by
  simp [bare, and_assoc]

theorem hasb_drop (s : ByteArray) (c : UInt8) (k : Nat) (h : k < s.size) : hasb ((us s).drop k) c = (s[k].toNat == c.toNat || hasb ((us s).drop (k + 1)) c) := by
  rw [drop_us s k h]; rfl
theorem allc_drop (s : ByteArray) (c : Int) (k : Nat) (h : k < s.size) : allc c ((us s).drop k) = (testc c s[k] && allc c ((us s).drop (k + 1))) := by
  rw [drop_us s k h]; rfl

set_option maxHeartbeats 400000 in
theorem in_c (s : ByteArray) (hs : s.size ≤ 9223372036854775807) (c : UInt8) (w : World) :
    Calls Tryd.prog 71 #[.string s, .int .u8 c.toNat] w fun e w' => e = .returned (.bool (hasb (us s) c)) ∧ w = w' := by
  go_enter Tryd.func71, Tryd.ntmps71
  go_wp2
  go_loop [8] (fun i => ∃ k : Nat, k ≤ s.size ∧ i = .int .i64 k ∧ hasb ((us s).drop k) c = hasb (us s) c) (fun i => s.size - (intOf i).toNat)
  case atStart => exact ⟨0, Nat.zero_le _, rfl, rfl⟩
  case round =>
    obtain ⟨k, hk, rfl, hb⟩ := hrel
    have HB := Lib.hid hb; clear hb
    by_cases hlt : k < s.size
    · have hd := Lib.hid (hasb_drop s c k hlt)
      go_wp2
      · go_ret
        rename_i h _
        refine ⟨ret_bool ?_, rfl⟩
        rw [← HB.out, hd.out]; simp at h; simp; omega
      · go_round
        case rel => exact ⟨k + 1, by omega, by go_num, by rename_i h; rw [← HB.out, hd.out]; simp at h; simp; omega⟩
        case measure => simp [intOf]; omega
    · go_wp2
      go_ret
      refine ⟨ret_bool ?_, rfl⟩
      rw [← HB.out, drop_us_end s k (by omega)]; rfl

theorem testc_t (k : Int) (c : UInt8) (h : (bits BinOp.and IntKind.i64 (cls c) k == 0) = true) : testc k c = false := by simp only [testc, h]; rfl
theorem testc_f (k : Int) (c : UInt8) (h : (bits BinOp.and IntKind.i64 (cls c) k == 0) = false) : testc k c = true := by simp only [testc, h]; rfl

set_option maxHeartbeats 400000 in
theorem all_c (s : ByteArray) (hs : s.size ≤ 9223372036854775807) (k : Int) (w : World) :
    Calls Tryd.prog 63 #[.string s, .int .i64 k] w fun e w' => e = .returned (.bool (allc k (us s))) ∧ w = w' := by
  go_enter Tryd.func63, Tryd.ntmps63
  go_wp2
  go_loop [8] (fun i => ∃ j : Nat, j ≤ s.size ∧ i = .int .i64 j ∧ allc k ((us s).drop j) = allc k (us s)) (fun i => s.size - (intOf i).toNat)
  case atStart => exact ⟨0, Nat.zero_le _, rfl, rfl⟩
  case round =>
    obtain ⟨j, hk, rfl, hb⟩ := hrel
    have HB := Lib.hid hb; clear hb
    by_cases hlt : j < s.size
    · have hd := Lib.hid (allc_drop s k j hlt)
      by_cases ht : (bits BinOp.and IntKind.i64 (cls s[j]) k == 0) = true
      · have hx := Lib.hid (testc_t k _ ht)
        go_wp2_with (go_at_call 41; refine (class_c _ _).mono ?_; rintro e w' ⟨rfl, rfl⟩)
        go_ret
        refine ⟨ret_bool ?_, rfl⟩
        rw [← HB.out, hd.out, hx.out]; rfl
      · have ht' : (bits BinOp.and IntKind.i64 (cls s[j]) k == 0) = false := by simpa using ht
        clear ht
        have hx := Lib.hid (testc_f k _ ht')
        go_wp2_with (go_at_call 41; refine (class_c _ _).mono ?_; rintro e w' ⟨rfl, rfl⟩)
        go_round
        case rel => exact ⟨j + 1, by omega, by go_num, by rw [← HB.out, hd.out, hx.out]; rfl⟩
        case measure => simp [intOf]; omega
    · go_wp2
      go_ret
      refine ⟨ret_bool ?_, rfl⟩
      rw [← HB.out, drop_us_end s j (by omega)]; rfl

theorem token_iff (l : List UInt8) : token l = true ↔ 1 ≤ l.length ∧ l.length ≤ 64 ∧ allc 8 l = true := by
  simp [token, and_assoc]

theorem worth_v (c : UInt8) : testc 4 c = true → (c.toNat ≤ 57 → (worth c : Int) = ((c.toNat : Int) - 48) % 256) ∧ (57 < c.toNat → (worth c : Int) = ((((low c).toNat : Int) - 97) % 256 + 10) % 256) ∧ worth c < 16 :=
  all_bytes (fun c => testc 4 c = true → (c.toNat ≤ 57 → (worth c : Int) = ((c.toNat : Int) - 48) % 256) ∧ (57 < c.toNat → (worth c : Int) = ((((low c).toNat : Int) - 97) % 256 + 10) % 256) ∧ worth c < 16) (by decide +kernel) c

set_option maxHeartbeats 400000 in
theorem worth_c (c : UInt8) (h : testc 4 c = true) (w : World) :
    Calls Tryd.prog 64 #[.int .u8 c.toNat] w fun e w' => e = .returned (.int .u8 (worth c)) ∧ w = w' := by
  have hv := Lib.hid (worth_v c h)
  clear h
  go_enter Tryd.func64, Tryd.ntmps64
  go_wp2_with (go_at_call 40; refine (lower_c _ _).mono ?_; rintro e w' ⟨rfl, rfl⟩)
  · go_ret
    exact ⟨ret_int (hv.out.1 (by omega)).symm, rfl⟩
  · go_ret
    exact ⟨ret_int (hv.out.2.1 (by omega)).symm, rfl⟩
end

section
open Go.RowKit

/-! trimming -/
theorem trimL_cons (c : UInt8) (l : List UInt8) : trimL (c :: l) = if blank c then trimL l else c :: l := by
  simp [trimL, List.dropWhile_cons]
theorem trimR_snoc (c : UInt8) (l : List UInt8) : trimR (l ++ [c]) = if blank c then trimR l else l ++ [c] := by
  simp only [trimR, List.reverse_append, List.reverse_cons, List.reverse_nil, List.nil_append, List.cons_append, List.dropWhile_cons]
  split <;> simp
theorem blank_of (c : UInt8) : blank c = (cls c == 32) := rfl
theorem us_cons (s : ByteArray) (h : 0 < s.size) : us s = s[0] :: (us s).drop 1 := by
  have := drop_us s 0 h; simpa using this
theorem us_snoc (s : ByteArray) (h : 0 < s.size) : us s = (us s).take (s.size - 1) ++ [s[s.size - 1]] := by
  have h1 := take_us s (s.size - 1) (by omega)
  rw [← h1, List.take_of_length_le (by rw [length_us]; omega)]
theorem us_extract (s : ByteArray) (a b : Nat) : us (s.extract a b) = ((us s).drop a).take (b - a) := Lib.extract_data s a b
theorem us_tail (s : ByteArray) (a : Nat) : us (s.extract a s.size) = (us s).drop a := Lib.extract_to_end s a
theorem size_extract (s : ByteArray) (a b : Nat) (h : b ≤ s.size) : (s.extract a b).size = b - a := by
  rw [← length_us, us_extract, List.length_take, List.length_drop, length_us]; omega

/-- a string's length, of a slot: for a loop's measure -/
def lenS : Value → Nat | .string t => t.size | _ => 0
theorem trimL_fix (s : ByteArray) (h : s.size = 0 ∨ ∃ h : 0 < s.size, blank s[0] = false) : trimL (us s) = us s := by
  rcases h with h | ⟨h, hb⟩
  · rw [eq_empty h]; rfl
  · rw [us_cons s h, trimL_cons, hb]; simp
theorem trimR_fix (s : ByteArray) (h : s.size = 0 ∨ ∃ h : 0 < s.size, blank s[s.size - 1] = false) : trimR (us s) = us s := by
  rcases h with h | ⟨h, hb⟩
  · rw [eq_empty h]; rfl
  · rw [us_snoc s h, trimR_snoc, hb]; simp
theorem trimL_step (s : ByteArray) (h : 0 < s.size) (hb : blank s[0] = true) : trimL (us (s.extract 1 s.size)) = trimL (us s) := by
  rw [us_tail, us_cons s h, trimL_cons, hb]; simp
theorem trimR_step (s : ByteArray) (h : 0 < s.size) (hb : blank s[s.size - 1] = true) : trimR (us (s.extract 0 (s.size - 1))) = trimR (us s) := by
  rw [us_extract]; conv => rhs; rw [us_snoc s h, trimR_snoc, hb]
  simp
theorem ret_bs {s : ByteArray} {l : List UInt8} (h : us s = l) : Ending.returned (.string s) = .returned (.string (bs l)) := by rw [← h, bs_us]

end

section
open Go.RowKit

theorem infoB : infoIs Tryd.prog 5 (.int .u8 0) 1 1 := by unfold infoIs; kernel_rfl
theorem low_up (c : UInt8) (h : 65 ≤ c.toNat ∧ c.toNat ≤ 90) : (low c).toNat = c.toNat + 32 := by rw [low_toNat, if_pos h]
theorem low_no (c : UInt8) (h : ¬ (65 ≤ c.toNat ∧ c.toNat ≤ 90)) : low c = c := by unfold low; rw [if_neg h]
theorem lowr_take (s : ByteArray) (k : Nat) (h : k < s.size) : lowr ((us s).take (k + 1)) = lowr ((us s).take k) ++ [low s[k]] := by
  rw [take_us s k h]; simp [lowr]
theorem lowr_len (l : List UInt8) : (lowr l).length = l.length := by simp [lowr]
theorem take_all (s : ByteArray) (k : Nat) (h : s.size ≤ k) : (us s).take k = us s := List.take_of_length_le (by rw [length_us]; exact h)
theorem take_len (s : ByteArray) (k : Nat) (h : k ≤ s.size) : ((us s).take k).length = k := by rw [List.length_take, length_us]; omega

@[simp] theorem toList_bs (l : List UInt8) : (bs l).toList = l := by rw [toList_us, us_bs]
theorem low_mix (s : ByteArray) (k : Nat) (h : k < s.size) :
    (lowr ((us s).take k) ++ (us s).drop k)[k]? = some s[k] := by
  rw [List.getElem?_append_right (by rw [lowr_len, take_len s k (by omega)]; omega), lowr_len, take_len s k (by omega)]
  simp [drop_us s k h]
theorem low_mix_set (s : ByteArray) (k : Nat) (h : k < s.size) :
    (lowr ((us s).take k) ++ (us s).drop k).set k (low s[k]) = lowr ((us s).take (k + 1)) ++ (us s).drop (k + 1) := by
  rw [lowr_take s k h, drop_us s k h, List.set_append_right _ _ (by rw [lowr_len, take_len s k (by omega)]; omega), lowr_len, take_len s k (by omega)]
  simp
theorem low_mix_len (s : ByteArray) (k : Nat) (h : k ≤ s.size) : (lowr ((us s).take k) ++ (us s).drop k).length = s.size := by
  rw [List.length_append, lowr_len, take_len s k h, List.length_drop, length_us]; omega
theorem bytesAt.cell? {w : World} {e : TypeId} {g : Nat} {l : List UInt8} (h : bytesAt w e g l) (j : Nat) {c : UInt8} (hj : l[j]? = some c) : w.cell? ⟨g, j, none⟩ = some (.int .u8 c.toNat) := by
  obtain ⟨hj1, hj2⟩ := List.getElem?_eq_some_iff.1 hj
  rw [h.cell j hj1, hj2]; rfl

set_option maxHeartbeats 800000 in
theorem lowerP_c (s : ByteArray) (hs : s.size ≤ 9223372036854775807) (w : World) :
    Calls Tryd.prog 26 #[.string s] w fun e w' => e = .returned (.string (bs (lowr (us s)))) ∧ Below w.heap.size w w' := by
  go_enter Tryd.func26, Tryd.ntmps26
  go_wp2_with (refine wpList_bytes rfl rfl Tryd.underlying9 Tryd.underlying82 Tryd.underlying5 rfl ?_; intro cap w1 hb1 hB1 hlt1 hcap1)
  go_loopw [9] (fun i wr => ∃ k : Nat, k ≤ s.size ∧ i = .int .i64 k ∧ bytesAt wr 5 w.heap.size (lowr ((us s).take k) ++ (us s).drop k) ∧ Below w.heap.size w wr) (fun i _ => s.size - (intOf i).toNat)
  case atStart => exact ⟨0, Nat.zero_le _, rfl, by simpa [lowr] using hb1, hB1⟩
  case round =>
    obtain ⟨k, hk, rfl, hb, hB⟩ := hrel
    by_cases hlt : k < s.size
    · have hc := hb.cell? k (low_mix s k hlt)
      have hlen := low_mix_len s k hk
      have hf := hb.free k (by omega)
      have hset := hb.set k (by omega) (low s[k])
      rw [low_mix_set s k hlt] at hset
      have HSET := Lib.hid hset
      clear hset hlen hb
      go_wp2_with (go_at_call 40; refine (lower_c _ _).mono ?_; rintro e w' ⟨rfl, rfl⟩)
      go_roundw
      case rel => exact ⟨k + 1, by omega, by go_num, HSET.out, hB.setCell (Nat.le_refl _) _⟩
      case measure => simp [intOf]; omega
    · have HB := Lib.hid hb
      clear hb
      have hkk : k = s.size := by omega
      have HK := Lib.hid (show lowr ((us s).take k) ++ (us s).drop k = lowr (us s) by rw [take_all s k (by omega), drop_us_end s k (by omega), List.append_nil])
      clear hkk
      go_wp2_with (refine wpList_strAt (l := lowr (us s)) rfl rfl Tryd.underlying82 Tryd.underlying5 Tryd.underlying9 rfl (by rw [lowr_len, length_us]) ?_ ?_; (focus (intro j hj; rw [Nat.zero_add]; exact (HK.out ▸ HB.out).cell j hj)))
      go_ret
      exact ⟨rfl, hB⟩

theorem same_drop (s t : ByteArray) (k : Nat) (h : k < s.size) (h' : k < t.size) :
    (lowr ((us s).drop k) == lowr ((us t).drop k)) = ((low s[k] == low t[k]) && (lowr ((us s).drop (k + 1)) == lowr ((us t).drop (k + 1)))) := by
  rw [drop_us s k h, drop_us t k h']; rfl
theorem u8_ne (a b : UInt8) : (((a.toNat : Nat) : Int) != ((b.toNat : Nat) : Int)) = !(a == b) := by
  rw [Bool.eq_iff_iff]
  simp
  constructor
  · intro h e; exact h (by rw [e])
  · intro h e; exact h (UInt8.toNat_inj.1 (by omega))

end

section
open Go.RowKit

theorem cut_cons (s : ByteArray) (k m : Nat) (h : k < m) (hm : m ≤ s.size) : ((us s).drop k).take (m - k) = s[k] :: ((us s).drop (k + 1)).take (m - (k + 1)) := by
  rw [drop_us s k (by omega)]
  obtain ⟨d, hd⟩ : ∃ d, m - k = d + 1 := ⟨m - k - 1, by omega⟩
  rw [hd, List.take_succ_cons]
  congr 2; omega
theorem cut_snoc (s : ByteArray) (k m : Nat) (h : k < m) (hm : m ≤ s.size) : ((us s).drop k).take (m - k) = ((us s).drop k).take (m - 1 - k) ++ [s[m - 1]] := by
  obtain ⟨d, hd⟩ : ∃ d, m - k = d + 1 := ⟨m - k - 1, by omega⟩
  have hd' : m - 1 - k = d := by omega
  rw [hd, hd', List.take_add_one]
  congr 1
  rw [List.getElem?_drop]
  have : k + d = m - 1 := by omega
  rw [this, get_us s (m - 1) (by omega)]; rfl

theorem digit_of (c : UInt8) : testc 1 c = true → 48 ≤ c.toNat ∧ c.toNat ≤ 57 :=
  all_bytes (fun c => testc 1 c = true → 48 ≤ c.toNat ∧ c.toNat ≤ 57) (by decide +kernel) c
theorem digit_is (c : UInt8) : 48 ≤ c.toNat ∧ c.toNat ≤ 57 → testc 1 c = true :=
  all_bytes (fun c => 48 ≤ c.toNat ∧ c.toNat ≤ 57 → testc 1 c = true) (by decide +kernel) c
theorem digits_at (s : ByteArray) (h : allc 1 (us s) = true) (k : Nat) (hk : k < s.size) : 48 ≤ s[k].toNat ∧ s[k].toNat ≤ 57 := by
  have := List.all_eq_true.1 h s[k] (List.mem_of_getElem? (get_us s k hk))
  exact digit_of _ this
theorem numGo_drop (s : ByteArray) (most n : Int) (k : Nat) (h : k < s.size) :
    numGo most ((us s).drop k) n = if most < (s[k].toNat : Int) - 48 ∨ (most - ((s[k].toNat : Int) - 48)) / 10 < n then (0, 9) else numGo most ((us s).drop (k + 1)) (10 * n + ((s[k].toNat : Int) - 48)) := by
  rw [drop_us s k h]; rfl
theorem number_ok (s : ByteArray) (most : Int) (hz : s.size ≠ 0) (h : allc 1 (us s) = true) : number (us s) most = numGo most (us s) 0 := by
  unfold number; rw [if_neg]
  rintro (e | e)
  · have := congrArg List.length e; rw [length_us] at this; exact hz (by simpa using this)
  · rw [h] at e; cases e
theorem ret_two {k k' : IntKind} {a b c d : Int} (h : a = b) (h' : c = d) : Ending.returned (.tuple #[.int k a, .int k' c]) = .returned (.tuple #[.int k b, .int k' d]) := by rw [h, h']

set_option maxHeartbeats 1600000 in
theorem number_c (s : ByteArray) (hs : s.size ≤ 9223372036854775807) (most : Int) (h0 : -9223372036854775808 ≤ most) (h1 : most ≤ 9223372036854775807) (w : World) :
    Calls Tryd.prog 69 #[.string s, .int .i64 most] w fun e w' => e = .returned (.tuple #[.int .i64 (number (us s) most).1, .int .i64 (number (us s) most).2]) ∧ w = w' := by
  by_cases hz : s.size = 0
  · obtain rfl := eq_empty hz
    clear hz hs
    go_enter Tryd.func69, Tryd.ntmps69
    go_wp2
    all_goals (go_ret2; exact ⟨rfl, rfl⟩)
  by_cases ha : allc 1 (us s) = true
  · have HN := Lib.hid (number_ok s most hz ha)
    have HA := Lib.hid ha
    have i1 := isEmpty_f hz
    have i2 := ne_empty hz
    go_enter Tryd.func69, Tryd.ntmps69
    go_wp2_with (go_at_call 63; refine (all_c _ hs _ _).mono ?_; rintro e w' ⟨rfl, rfl⟩)
    clear ha
    go_loop [6, 18] (fun v i => ∃ (k : Nat) (n : Int), k ≤ s.size ∧ i = .int .i64 k ∧ v = .int .i64 n ∧ 0 ≤ n ∧ n ≤ 9223372036854775807 ∧ numGo most ((us s).drop k) n = numGo most (us s) 0) (fun _ i => s.size - (intOf i).toNat)
    case atStart => exact ⟨0, 0, Nat.zero_le _, rfl, rfl, by omega, by omega, rfl⟩
    case round =>
      obtain ⟨k, n, hk, rfl, rfl, n0, n1, hb⟩ := hrel
      have HB := Lib.hid hb; clear hb
      by_cases hlt : k < s.size
      · obtain ⟨d0, d1⟩ := digits_at s HA.out k hlt
        have hd := Lib.hid (numGo_drop s most n k hlt)
        by_cases hc1 : most < (s[k].toNat : Int) - 48
        · go_wp2
          go_ret2
          exact ⟨by rw [HN.out, ← HB.out, hd.out, if_pos (.inl hc1)]; rfl, rfl⟩
        · have hc1' : (s[k].toNat : Int) - 48 ≤ most := by omega
          by_cases hc2 : (most - ((s[k].toNat : Int) - 48)) / 10 < n
          · go_wp2
            go_ret2
            exact ⟨by rw [HN.out, ← HB.out, hd.out, if_pos (.inr hc2)]; rfl, rfl⟩
          · go_wp2
            go_round
            case rel => exact ⟨k + 1, _, by omega, by go_num, rfl, by omega, by omega, by rw [← HB.out, hd.out, if_neg (by omega)]⟩
            case measure => simp [intOf]; omega
      · go_wp2
        go_ret2
        exact ⟨by rw [HN.out, ← HB.out, drop_us_end s k (by omega)]; rfl, rfl⟩
  · have ha' : allc 1 (us s) = false := by simpa using ha
    have HN := Lib.hid (show number (us s) most = (0, 10) by unfold number; rw [if_pos (.inr ha')])
    clear ha
    have i1 := isEmpty_f hz
    have i2 := ne_empty hz
    go_enter Tryd.func69, Tryd.ntmps69
    go_wp2_with (go_at_call 63; refine (all_c _ hs _ _).mono ?_; rintro e w' ⟨rfl, rfl⟩)
    go_ret2
    exact ⟨by rw [HN.out]; rfl, rfl⟩

end

end Go.Proofs.YtbljmjbialinkaaDoor
