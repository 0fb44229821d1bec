/-
  The small functions of layer 1, of the program and of the reference: each by its own contract.
-/
import Derived.Test.YteiafgoigfehgaaDoorClassR
namespace Go.Proofs.YteiafgoigfehgaaDoor
open Go.RowKit

theorem low_toNat (c : UInt8) : (low c).toNat = if 65 ≤ c.toNat ∧ c.toNat ≤ 90 then c.toNat + 32 else c.toNat :=
  all_bytes (fun c => (low c).toNat = if 65 ≤ c.toNat ∧ c.toNat ≤ 90 then c.toNat + 32 else c.toNat) (by decide +kernel) c
theorem ret_int {k : IntKind} {a b : Int} (h : a = b) : Ending.returned (.int k a) = .returned (.int k b) := by rw [h]
theorem ret_bool {a b : Bool} (h : a = b) : Ending.returned (.bool a) = .returned (.bool b) := by rw [h]
theorem ret_str {a b : ByteArray} (h : a = b) : Ending.returned (.string a) = .returned (.string b) := by rw [h]

set_option maxHeartbeats 400000 in
theorem lower_c (c : UInt8) (w : World) :
    Calls Tryd.prog 58 #[.int .u8 c.toNat] w fun e w' => e = .returned (.int .u8 (low c).toNat) ∧ w = w' := by
  have hl := Lib.hid (low_toNat c)
  have hc := c.toNat_lt
  by_cases h : 65 ≤ c.toNat ∧ c.toNat ≤ 90
  · obtain ⟨h1, h2⟩ := h
    go_enter Tryd.func58, Tryd.ntmps58
    go_wp2
    go_ret
    exact ⟨ret_int (by rw [hl.out, if_pos ⟨h1, h2⟩]; omega), rfl⟩
  · have hl' := Lib.hid ((low_toNat c).trans (if_neg h))
    clear hl
    have h' : c.toNat < 65 ∨ 90 < c.toNat := by omega
    clear h
    rcases h' with h' | h'
    all_goals
      go_enter Tryd.func58, Tryd.ntmps58
      go_wp2
      all_goals (go_ret; exact ⟨ret_int (by rw [hl'.out]), rfl⟩)

theorem bare_iff (c : UInt8) : bare c = true ↔ c.toNat ≠ 34 ∧ c.toNat ≠ 92 ∧ c.toNat ≠ 127 ∧ (32 ≤ c.toNat ∨ c.toNat = 9) := by
  simp [bare, and_assoc]

set_option maxHeartbeats 400000 in
theorem bare_c (c : UInt8) (w : World) :
    Calls Tryd.prog 90 #[.int .u8 c.toNat] w fun e w' => e = .returned (.bool (bare c)) ∧ w = w' := by
  have hc := c.toNat_lt
  go_enter Tryd.func90, Tryd.ntmps90
  go_wp2
  all_goals
    go_ret
    refine ⟨ret_bool ?_, rfl⟩
    rw [Bool.eq_iff_iff, bare_iff]
    simp_all
    try omega

set_option maxHeartbeats 400000 in
theorem bareR_c (c : UInt8) (w : World) :
    Calls Tryd.prog 87 #[.int .u8 c.toNat] w fun e w' => e = .returned (.bool (bare c)) ∧ w = w' := by
  have hc := c.toNat_lt
  go_enter Tryd.func87, Tryd.ntmps87
  go_wp2
  all_goals
    go_ret
    refine ⟨ret_bool ?_, rfl⟩
    rw [Bool.eq_iff_iff, bare_iff]
    simp_all
    try omega

set_option maxHeartbeats 400000 in
theorem brokenR_c (c : UInt8) (w : World) :
    Calls Tryd.prog 86 #[.int .u8 c.toNat] w fun e w' => e = .returned (.bool (broken c)) ∧ w = w' := by
  have hc := c.toNat_lt
  go_enter Tryd.func86, Tryd.ntmps86
  go_wp2
  all_goals
    go_ret
    refine ⟨ret_bool ?_, rfl⟩
    rw [Bool.eq_iff_iff]
    simp_all [broken]
    try omega

theorem hasb_drop (s : ByteArray) (c : UInt8) (k : Nat) (h : k < s.size) : hasb ((us s).drop k) c = (s[k].toNat == c.toNat || hasb ((us s).drop (k + 1)) c) := by
  rw [drop_us s k h]; rfl
theorem allc_drop (s : ByteArray) (c : Int) (k : Nat) (h : k < s.size) : allc c ((us s).drop k) = (testc c s[k] && allc c ((us s).drop (k + 1))) := by
  rw [drop_us s k h]; rfl

theorem testc_t (k : Int) (c : UInt8) (h : (bits BinOp.and IntKind.i64 (cls c) k == 0) = true) : testc k c = false := by simp only [testc, h]; rfl
theorem testc_f (k : Int) (c : UInt8) (h : (bits BinOp.and IntKind.i64 (cls c) k == 0) = false) : testc k c = true := by simp only [testc, h]; rfl

set_option maxHeartbeats 400000 in
theorem all_c (s : ByteArray) (hs : s.size ≤ 9223372036854775807) (k : Int) (w : World) :
    Calls Tryd.prog 61 #[.string s, .int .i64 k] w fun e w' => e = .returned (.bool (allc k (us s))) ∧ w = w' := by
  go_enter Tryd.func61, Tryd.ntmps61
  go_wp2
  go_loop [8] (fun i => ∃ j : Nat, j ≤ s.size ∧ i = .int .i64 j ∧ allc k ((us s).drop j) = allc k (us s)) (fun i => s.size - (intOf i).toNat)
  case atStart => exact ⟨0, Nat.zero_le _, rfl, rfl⟩
  case round =>
    obtain ⟨j, hk, rfl, hb⟩ := hrel
    have HB := Lib.hid hb; clear hb
    by_cases hlt : j < s.size
    · have hd := Lib.hid (allc_drop s k j hlt)
      by_cases ht : (bits BinOp.and IntKind.i64 (cls s[j]) k == 0) = true
      · have hx := Lib.hid (testc_t k _ ht)
        go_wp2_with (go_at_call 59; refine (class_c _ _).mono ?_; rintro e w' ⟨rfl, rfl⟩)
        go_ret
        refine ⟨ret_bool ?_, rfl⟩
        rw [← HB.out, hd.out, hx.out]; rfl
      · have ht' : (bits BinOp.and IntKind.i64 (cls s[j]) k == 0) = false := by simpa using ht
        clear ht
        have hx := Lib.hid (testc_f k _ ht')
        go_wp2_with (go_at_call 59; refine (class_c _ _).mono ?_; rintro e w' ⟨rfl, rfl⟩)
        go_round
        case rel => exact ⟨j + 1, by omega, by go_num, by rw [← HB.out, hd.out, hx.out]; rfl⟩
        case measure => simp [intOf]; omega
    · go_wp2
      go_ret
      refine ⟨ret_bool ?_, rfl⟩
      rw [← HB.out, drop_us_end s j (by omega)]; rfl

set_option maxHeartbeats 400000 in
theorem allR_c (s : ByteArray) (hs : s.size ≤ 9223372036854775807) (k : Int) (w : World) :
    Calls Tryd.prog 62 #[.string s, .int .i64 k] w fun e w' => e = .returned (.bool (allc k (us s))) ∧ w = w' := by
  go_enter Tryd.func62, Tryd.ntmps62
  go_wp2
  go_loop [5] (fun i => ∃ j : Nat, j ≤ s.size ∧ i = .int .i64 j ∧ allc k ((us s).drop j) = allc k (us s)) (fun i => s.size - (intOf i).toNat)
  case atStart => exact ⟨0, Nat.zero_le _, rfl, rfl⟩
  case round =>
    obtain ⟨j, hk, rfl, hb⟩ := hrel
    have HB := Lib.hid hb; clear hb
    by_cases hlt : j < s.size
    · have hd := Lib.hid (allc_drop s k j hlt)
      by_cases ht : (bits BinOp.and IntKind.i64 (cls s[j]) k == 0) = true
      · have hx := Lib.hid (testc_t k _ ht)
        go_wp2_with (go_at_call 52; refine (classR_c _ _).mono ?_; rintro e w' ⟨rfl, rfl⟩)
        go_ret
        refine ⟨ret_bool ?_, rfl⟩
        rw [← HB.out, hd.out, hx.out]; rfl
      · have ht' : (bits BinOp.and IntKind.i64 (cls s[j]) k == 0) = false := by simpa using ht
        clear ht
        have hx := Lib.hid (testc_f k _ ht')
        go_wp2_with (go_at_call 52; refine (classR_c _ _).mono ?_; rintro e w' ⟨rfl, rfl⟩)
        go_round
        case rel => exact ⟨j + 1, by omega, by go_num, by rw [← HB.out, hd.out, hx.out]; rfl⟩
        case measure => simp [intOf]; omega
    · go_wp2
      go_ret
      refine ⟨ret_bool ?_, rfl⟩
      rw [← HB.out, drop_us_end s j (by omega)]; rfl

theorem token_iff (l : List UInt8) : token l = true ↔ 1 ≤ l.length ∧ l.length ≤ 64 ∧ allc 8 l = true := by
  simp [token, and_assoc]

set_option maxHeartbeats 400000 in
theorem token_c (s : ByteArray) (hs : s.size ≤ 9223372036854775807) (w : World) :
    Calls Tryd.prog 40 #[.string s] w fun e w' => e = .returned (.bool (token (us s))) ∧ w = w' := by
  by_cases hz : s.size = 0
  · obtain rfl := eq_empty hz
    clear hz hs
    go_enter Tryd.func40, Tryd.ntmps40
    go_wp2
    all_goals (go_ret; exact ⟨rfl, rfl⟩)
  · have h1 := isEmpty_f hz
    have h2 := ne_empty hz
    go_enter Tryd.func40, Tryd.ntmps40
    go_wp2_with (go_at_call 61; refine (all_c _ hs _ _).mono ?_; rintro e w' ⟨rfl, rfl⟩)
    all_goals
      go_ret
      refine ⟨ret_bool ?_, rfl⟩
      rw [Bool.eq_iff_iff, token_iff, length_us]
      by_cases hA : allc 8 (us s) = true <;> simp [hA] <;> omega

set_option maxHeartbeats 400000 in
theorem tokenR_c (s : ByteArray) (hs : s.size ≤ 9223372036854775807) (w : World) :
    Calls Tryd.prog 45 #[.string s] w fun e w' => e = .returned (.bool (token (us s))) ∧ w = w' := by
  go_enter Tryd.func45, Tryd.ntmps45
  go_wp2_with (go_at_call 62; refine (allR_c _ hs _ _).mono ?_; rintro e w' ⟨rfl, rfl⟩)
  all_goals
    go_ret
    refine ⟨ret_bool ?_, rfl⟩
    rw [Bool.eq_iff_iff, token_iff, length_us]
    by_cases hA : allc 8 (us s) = true <;> simp [hA] <;> omega

theorem worth_v (c : UInt8) : testc 4 c = true → (c.toNat ≤ 57 → (worth c : Int) = ((c.toNat : Int) - 48) % 256) ∧ (57 < c.toNat → (worth c : Int) = ((((low c).toNat : Int) - 97) % 256 + 10) % 256) ∧ worth c < 16 :=
  all_bytes (fun c => testc 4 c = true → (c.toNat ≤ 57 → (worth c : Int) = ((c.toNat : Int) - 48) % 256) ∧ (57 < c.toNat → (worth c : Int) = ((((low c).toNat : Int) - 97) % 256 + 10) % 256) ∧ worth c < 16) (by decide +kernel) c

end Go.Proofs.YteiafgoigfehgaaDoor
