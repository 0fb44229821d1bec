/- Contracts of Go functions, and plain laws. No condition but those told. -/
import Derived.Test.YtipdiddjhimdcaaGreatDoorR01
import Derived.Deep.QuietTactic
import Derived.BigQuiet
import Derived.Lib.IndexBytes
import Derived.Deep.RegionLaw
set_option linter.unusedSimpArgs false
set_option linter.unusedVariables false
set_option maxRecDepth 100000
namespace Go.Proofs.YtipdiddjhimdcaaGreatDoor
section
open Go.RowKit
theorem low_toNat (c : UInt8) : (low c).toNat = if 65 ≤ c.toNat ∧ c.toNat ≤ 90 then c.toNat + 32 else c.toNat :=
 all_bytes (fun c => (low c).toNat = if 65 ≤ c.toNat ∧ c.toNat ≤ 90 then c.toNat + 32 else c.toNat) (by decide +kernel) c
theorem ret_int {k : IntKind} {a b : Int} (h : a = b) : Ending.returned (.int k a) = .returned (.int k b) := by rw [h]
theorem ret_bool {a b : Bool} (h : a = b) : Ending.returned (.bool a) = .returned (.bool b) := by rw [h]
theorem ret_str {a b : ByteArray} (h : a = b) : Ending.returned (.string a) = .returned (.string b) := by rw [h]
set_option maxHeartbeats 400000 in
theorem lower_c (c : UInt8) (w : World) :
  Calls Tryz.prog 147 #[.int .u8 c.toNat] w fun e w' => e = .returned (.int .u8 (low c).toNat) ∧ w = w' := by
 have hl := κ (low_toNat c)
 have hc := c.toNat_lt
 by_cases h : 65 ≤ c.toNat ∧ c.toNat ≤ 90
 ·obtain ⟨h1, h2⟩ := h
  go_enter Tryz.func147, Tryz.ntmps147
  go_wp2
  go_ret
  exact ⟨ret_int (by rw [hl.out, if_pos ⟨h1, h2⟩]; omega), rfl⟩
 ·have hl' := κ ((low_toNat c).trans (if_neg h))
  clear hl
  have h' : c.toNat < 65 ∨ 90 < c.toNat := by omega
  clear h
  rcases h' with h' | h'
  all_goals
   go_enter Tryz.func147, Tryz.ntmps147
   go_wp2
   all_goals (go_ret; exact ⟨ret_int (by rw [hl'.out]), rfl⟩)
theorem bare_iff (c : UInt8) : bare c = true ↔ c.toNat ≠ 34 ∧ c.toNat ≠ 92 ∧ c.toNat ≠ 127 ∧ (32 ≤ c.toNat ∨ c.toNat = 9) := by
 simp [bare, and_assoc]
set_option maxHeartbeats 400000 in
theorem bare_c (c : UInt8) (w : World) :
  Calls Tryz.prog 140 #[.int .u8 c.toNat] w fun e w' => e = .returned (.bool (bare c)) ∧ w = w' := by
 have hc := c.toNat_lt
 go_enter Tryz.func140, Tryz.ntmps140
 go_wp2
 all_goals
  go_ret
  refine ⟨ret_bool ?_, rfl⟩
  rw [Bool.eq_iff_iff, bare_iff]
  simp_all
  try omega
theorem allc_drop (s : ByteArray) (c : Int) (k : Nat) (h : k < s.size) : allc c ((us s).drop k) = (testc c s[k] && allc c ((us s).drop (k + 1))) := by
 rw [drop_us s k h]; rfl
theorem testc_t (k : Int) (c : UInt8) (h : (bits BinOp.and IntKind.i64 (cls c) k == 0) = true) : testc k c = false := by simp only [testc, h]; rfl
theorem testc_f (k : Int) (c : UInt8) (h : (bits BinOp.and IntKind.i64 (cls c) k == 0) = false) : testc k c = true := by simp only [testc, h]; rfl
set_option maxHeartbeats 400000 in
theorem all_c (s : ByteArray) (hs : s.size ≤ 9223372036854775807) (k : Int) (w : World) :
  Calls Tryz.prog 78 #[.string s, .int .i64 k] w fun e w' => e = .returned (.bool (allc k (us s))) ∧ w = w' := by
 go_enter Tryz.func78, Tryz.ntmps78
 go_wp2
 go_loop [8] (fun i => ∃ j : Nat, j ≤ s.size ∧ i = .int .i64 j ∧ allc k ((us s).drop j) = allc k (us s)) (fun i => s.size - (intOf i).toNat)
 case atStart => exact ⟨0, Nat.zero_le _, rfl, rfl⟩
 case round =>
  obtain ⟨j, hk, rfl, hb⟩ := hrel
  have HB := κ hb; clear hb
  by_cases hlt : j < s.size
  ·have hd := κ (allc_drop s k j hlt)
   by_cases ht : (bits BinOp.and IntKind.i64 (cls s[j]) k == 0) = true
   ·have hx := κ (testc_t k _ ht)
    go_wp2_with (go_at_call 92; refine (class_c _ _).mono ?_; rintro e w' ⟨rfl, rfl⟩)
    go_ret
    refine ⟨ret_bool ?_, rfl⟩
    rw [← HB.out, hd.out, hx.out]; rfl
   ·have ht' : (bits BinOp.and IntKind.i64 (cls s[j]) k == 0) = false := by simpa using ht
    clear ht
    have hx := κ (testc_f k _ ht')
    go_wp2_with (go_at_call 92; refine (class_c _ _).mono ?_; rintro e w' ⟨rfl, rfl⟩)
    go_round
    case rel => exact ⟨j + 1, by omega, by go_num, by rw [← HB.out, hd.out, hx.out]; rfl⟩
    case measure => simp [intOf]; omega
  ·go_wp2
   go_ret
   refine ⟨ret_bool ?_, rfl⟩
   rw [← HB.out, drop_us_end s j (by omega)]; rfl
set_option maxHeartbeats 400000 in
theorem allR_c (s : ByteArray) (hs : s.size ≤ 9223372036854775807) (k : Int) (w : World) :
  Calls Tryz.prog 117 #[.string s, .int .i64 k] w fun e w' => e = .returned (.bool (allc k (us s))) ∧ w = w' := by
 go_enter Tryz.func117, Tryz.ntmps117
 go_wp2
 go_loop [5] (fun i => ∃ j : Nat, j ≤ s.size ∧ i = .int .i64 j ∧ allc k ((us s).drop j) = allc k (us s)) (fun i => s.size - (intOf i).toNat)
 case atStart => exact ⟨0, Nat.zero_le _, rfl, rfl⟩
 case round =>
  obtain ⟨j, hk, rfl, hb⟩ := hrel
  have HB := κ hb; clear hb
  by_cases hlt : j < s.size
  ·have hd := κ (allc_drop s k j hlt)
   by_cases ht : (bits BinOp.and IntKind.i64 (cls s[j]) k == 0) = true
   ·have hx := κ (testc_t k _ ht)
    go_wp2_with (go_at_call 162; refine (classR_c _ _).mono ?_; rintro e w' ⟨rfl, rfl⟩)
    go_ret
    refine ⟨ret_bool ?_, rfl⟩
    rw [← HB.out, hd.out, hx.out]; rfl
   ·have ht' : (bits BinOp.and IntKind.i64 (cls s[j]) k == 0) = false := by simpa using ht
    clear ht
    have hx := κ (testc_f k _ ht')
    go_wp2_with (go_at_call 162; refine (classR_c _ _).mono ?_; rintro e w' ⟨rfl, rfl⟩)
    go_round
    case rel => exact ⟨j + 1, by omega, by go_num, by rw [← HB.out, hd.out, hx.out]; rfl⟩
    case measure => simp [intOf]; omega
  ·go_wp2
   go_ret
   refine ⟨ret_bool ?_, rfl⟩
   rw [← HB.out, drop_us_end s j (by omega)]; rfl
theorem token_iff (l : List UInt8) : token l = true ↔ 1 ≤ l.length ∧ l.length ≤ 64 ∧ allc 8 l = true := by
 simp [token, and_assoc]
set_option maxHeartbeats 400000 in
theorem token_c (s : ByteArray) (hs : s.size ≤ 9223372036854775807) (w : World) :
  Calls Tryz.prog 31 #[.string s] w fun e w' => e = .returned (.bool (token (us s))) ∧ w = w' := by
 by_cases hz : s.size = 0
 ·obtain rfl := eq_empty hz
  clear hz hs
  go_enter Tryz.func31, Tryz.ntmps31
  go_wp2
  all_goals (go_ret; exact ⟨rfl, rfl⟩)
 ·have h1 := isEmpty_f hz
  have h2 := ne_empty hz
  go_enter Tryz.func31, Tryz.ntmps31
  go_wp2_with (go_at_call 78; refine (all_c _ hs _ _).mono ?_; rintro e w' ⟨rfl, rfl⟩)
  all_goals
   go_ret
   refine ⟨ret_bool ?_, rfl⟩
   rw [Bool.eq_iff_iff, token_iff, length_us]
   by_cases hA : allc 8 (us s) = true <;> simp [hA] <;> omega
set_option maxHeartbeats 400000 in
theorem tokenR_c (s : ByteArray) (hs : s.size ≤ 9223372036854775807) (w : World) :
  Calls Tryz.prog 65 #[.string s] w fun e w' => e = .returned (.bool (token (us s))) ∧ w = w' := by
 go_enter Tryz.func65, Tryz.ntmps65
 go_wp2_with (go_at_call 117; refine (allR_c _ hs _ _).mono ?_; rintro e w' ⟨rfl, rfl⟩)
 all_goals
  go_ret
  refine ⟨ret_bool ?_, rfl⟩
  rw [Bool.eq_iff_iff, token_iff, length_us]
  by_cases hA : allc 8 (us s) = true <;> simp [hA] <;> omega
theorem worth_v (c : UInt8) : testc 4 c = true → (c.toNat ≤ 57 → (worth c : Int) = ((c.toNat : Int) - 48) % 256) ∧ (57 < c.toNat → (worth c : Int) = ((((low c).toNat : Int) - 97) % 256 + 10) % 256) ∧ worth c < 16 :=
 all_bytes (fun c => testc 4 c = true → (c.toNat ≤ 57 → (worth c : Int) = ((c.toNat : Int) - 48) % 256) ∧ (57 < c.toNat → (worth c : Int) = ((((low c).toNat : Int) - 97) % 256 + 10) % 256) ∧ worth c < 16) (by decide +kernel) c
set_option maxHeartbeats 400000 in
theorem worth_c (c : UInt8) (h : testc 4 c = true) (w : World) :
  Calls Tryz.prog 190 #[.int .u8 c.toNat] w fun e w' => e = .returned (.int .u8 (worth c)) ∧ w = w' := by
 have hv := κ (worth_v c h)
 clear h
 go_enter Tryz.func190, Tryz.ntmps190
 go_wp2_with (go_at_call 147; refine (lower_c _ _).mono ?_; rintro e w' ⟨rfl, rfl⟩)
 ·go_ret
  exact ⟨ret_int (hv.out.1 (by omega)).symm, rfl⟩
 ·go_ret
  exact ⟨ret_int (hv.out.2.1 (by omega)).symm, rfl⟩
end
section
open Go.RowKit
/-! trimming -/
theorem trimL_cons (c : UInt8) (l : List UInt8) : trimL (c :: l) = if blank c then trimL l else c :: l := by
 simp [trimL, List.dropWhile_cons]
theorem trimR_snoc (c : UInt8) (l : List UInt8) : trimR (l ++ [c]) = if blank c then trimR l else l ++ [c] := by
 simp only [trimR, List.reverse_append, List.reverse_cons, List.reverse_nil, List.nil_append, List.cons_append, List.dropWhile_cons]
 split <;> simp
theorem blank_of (c : UInt8) : blank c = (cls c == 32) := rfl
theorem us_cons (s : ByteArray) (h : 0 < s.size) : us s = s[0] :: (us s).drop 1 := by
 have := drop_us s 0 h; simpa using this
theorem us_snoc (s : ByteArray) (h : 0 < s.size) : us s = (us s).take (s.size - 1) ++ [s[s.size - 1]] := by
 have h1 := take_us s (s.size - 1) (by omega)
 rw [← h1, List.take_of_length_le (by rw [length_us]; omega)]
theorem us_extract (s : ByteArray) (a b : Nat) : us (s.extract a b) = ((us s).drop a).take (b - a) := Lib.extract_data s a b
theorem us_tail (s : ByteArray) (a : Nat) : us (s.extract a s.size) = (us s).drop a := Lib.extract_to_end s a
theorem size_extract (s : ByteArray) (a b : Nat) (h : b ≤ s.size) : (s.extract a b).size = b - a := by
 rw [← length_us, us_extract, List.length_take, List.length_drop, length_us]; omega
def lenS : Value → Nat | .string t => t.size | _ => 0
theorem trimL_fix (s : ByteArray) (h : s.size = 0 ∨ ∃ h : 0 < s.size, blank s[0] = false) : trimL (us s) = us s := by
 rcases h with h | ⟨h, hb⟩
 ·rw [eq_empty h]; rfl
 ·rw [us_cons s h, trimL_cons, hb]; simp
theorem trimR_fix (s : ByteArray) (h : s.size = 0 ∨ ∃ h : 0 < s.size, blank s[s.size - 1] = false) : trimR (us s) = us s := by
 rcases h with h | ⟨h, hb⟩
 ·rw [eq_empty h]; rfl
 ·rw [us_snoc s h, trimR_snoc, hb]; simp
theorem trimL_step (s : ByteArray) (h : 0 < s.size) (hb : blank s[0] = true) : trimL (us (s.extract 1 s.size)) = trimL (us s) := by
 rw [us_tail, us_cons s h, trimL_cons, hb]; simp
theorem trimR_step (s : ByteArray) (h : 0 < s.size) (hb : blank s[s.size - 1] = true) : trimR (us (s.extract 0 (s.size - 1))) = trimR (us s) := by
 rw [us_extract]; conv => rhs; rw [us_snoc s h, trimR_snoc, hb]
 simp
theorem ret_bs {s : ByteArray} {l : List UInt8} (h : us s = l) : Ending.returned (.string s) = .returned (.string (bs l)) := by rw [← h, bs_us]
set_option maxHeartbeats 800000 in
theorem trim_c (s : ByteArray) (hs : s.size ≤ 9223372036854775807) (w : World) :
  Calls Tryz.prog 50 #[.string s] w fun e w' => e = .returned (.string (bs (trim (us s)))) ∧ w = w' := by
 go_enter Tryz.func50, Tryz.ntmps50
 go_wp2
 go_loop [0] (fun v => ∃ t : ByteArray, v = .string t ∧ t.size ≤ s.size ∧ trimL (us t) = trimL (us s)) (fun v => lenS v)
 case atStart => exact ⟨s, rfl, ρ _, rfl⟩
 case round =>
  obtain ⟨t, rfl, ht, hb⟩ := hrel
  have HB := κ hb; clear hb
  by_cases hbl : ∃ h : 0 < t.size, blank t[0] = true
  ·obtain ⟨h3, hbl⟩ := hbl
   have HS := κ ((trimL_step t h3 hbl).trans HB.out)
   have h1 := isEmpty_f (s := t) (by omega)
   have h2 := ne_empty (s := t) (by omega)
   rw [blank_of] at hbl
   go_wp2_with (go_at_call 92; refine (class_c _ _).mono ?_; rintro e w' ⟨rfl, rfl⟩)
   go_round
   case rel => exact ⟨_, rfl, by rw [size_extract _ _ _ (ρ _)]; omega, HS.out⟩
   case measure => simp only [lenS]; rw [size_extract _ _ _ (ρ _)]; omega
  ·have hx : t.size = 0 ∨ ∃ h : 0 < t.size, blank t[0] = false := by
    by_cases h : 0 < t.size
    ·right; exact ⟨h, by simpa using fun hh => hbl ⟨h, hh⟩⟩
    ·left; omega
   have HT := κ (show trimR (us t) = trim (us s) by rw [trim, ← HB.out, trimL_fix t hx])
   clear hbl HB
   have hx' : (t.size = 0 ∧ t.toList.isEmpty = true) ∨ (∃ h : 0 < t.size, blank t[0] = false ∧ t.toList.isEmpty = false ∧ ¬ t = ByteArray.empty) := by
    rcases hx with h | ⟨h, hb⟩
    ·exact .inl ⟨h, by rw [isEmpty_us]; exact decide_eq_true h⟩
    ·exact .inr ⟨h, hb, isEmpty_f (by omega), ne_empty (by omega)⟩
   clear hx
   rcases hx' with ⟨hz, h1⟩ | ⟨h3, hbl, h1, h2⟩
   rotate_left
   rw [blank_of] at hbl
   rotate_left
   all_goals
    go_wp2_with (go_at_call 92; refine (class_c _ _).mono ?_; rintro e w' ⟨rfl, rfl⟩)
    go_loop [0] (fun v => ∃ t : ByteArray, v = .string t ∧ t.size ≤ s.size ∧ trimR (us t) = trim (us s)) (fun v => lenS v)
    case atStart => exact ⟨_, rfl, ht, HT.out⟩
    case round =>
     obtain ⟨r, rfl, hr, hb⟩ := hrel
     have HB := κ hb; clear hb HT
     by_cases hbr : ∃ h : 0 < r.size, blank r[r.size - 1] = true
     ·obtain ⟨h3, hbr⟩ := hbr
      have HS := κ ((trimR_step r h3 hbr).trans HB.out)
      have h1 := isEmpty_f (s := r) (by omega)
      have h2 := ne_empty (s := r) (by omega)
      rw [blank_of] at hbr
      go_wp2_with (go_at_call 92; refine (class_c _ _).mono ?_; rintro e w' ⟨rfl, rfl⟩)
      go_round
      case rel => exact ⟨_, rfl, by rw [size_extract _ _ _ (by omega)]; omega, HS.out⟩
      case measure => simp only [lenS]; rw [size_extract _ _ _ (by omega)]; omega
     ·have hx : r.size = 0 ∨ ∃ h : 0 < r.size, blank r[r.size - 1] = false := by
       by_cases h : 0 < r.size
       ·right; exact ⟨h, by simpa using fun hh => hbr ⟨h, hh⟩⟩
       ·left; omega
      have HT := κ (show us r = trim (us s) by rw [← HB.out, trimR_fix r hx])
      clear hbr HB
      have hx' : (r.size = 0 ∧ r.toList.isEmpty = true) ∨ (∃ h : 0 < r.size, blank r[r.size - 1] = false ∧ r.toList.isEmpty = false ∧ ¬ r = ByteArray.empty) := by
       rcases hx with h | ⟨h, hb⟩
       ·exact .inl ⟨h, by rw [isEmpty_us]; exact decide_eq_true h⟩
       ·exact .inr ⟨h, hb, isEmpty_f (by omega), ne_empty (by omega)⟩
      clear hx
      rcases hx' with ⟨hz, h1⟩ | ⟨h3, hbl, h1, h2⟩
      ·go_wp2
       go_ret
       exact ⟨ret_bs HT.out, rfl⟩
      ·rw [blank_of] at hbl
       go_wp2_with (go_at_call 92; refine (class_c _ _).mono ?_; rintro e w' ⟨rfl, rfl⟩)
       go_ret
       exact ⟨ret_bs HT.out, rfl⟩
end
section
open Go.RowKit
theorem infoB : infoIs Tryz.prog 5 (.int .u8 0) 1 1 := by unfold infoIs; kernel_rfl
theorem low_up (c : UInt8) (h : 65 ≤ c.toNat ∧ c.toNat ≤ 90) : (low c).toNat = c.toNat + 32 := by rw [low_toNat, if_pos h]
theorem low_no (c : UInt8) (h : ¬ (65 ≤ c.toNat ∧ c.toNat ≤ 90)) : low c = c := by unfold low; rw [if_neg h]
theorem lowr_take (s : ByteArray) (k : Nat) (h : k < s.size) : lowr ((us s).take (k + 1)) = lowr ((us s).take k) ++ [low s[k]] := by
 rw [take_us s k h]; simp [lowr]
theorem lowr_len (l : List UInt8) : (lowr l).length = l.length := by simp [lowr]
theorem take_all (s : ByteArray) (k : Nat) (h : s.size ≤ k) : (us s).take k = us s := List.take_of_length_le (by rw [length_us]; exact h)
theorem take_len (s : ByteArray) (k : Nat) (h : k ≤ s.size) : ((us s).take k).length = k := by rw [List.length_take, length_us]; omega
set_option maxHeartbeats 800000 in
theorem lowerR_c (s : ByteArray) (hs : s.size ≤ 140737488355328) (w : World) :
  Calls Tryz.prog 123 #[.string s] w fun e w' => e = .returned (.string (bs (lowr (us s)))) ∧ Below w.heap.size w w' := by
 go_enter Tryz.func123, Tryz.ntmps123
 go_wp2
 go_loopw [3, 4] (fun v i wr => ∃ k : Nat, k ≤ s.size ∧ i = .int .i64 k ∧ Byt wr w.heap.size 5 v (lowr ((us s).take k)) ∧ Below w.heap.size w wr) (fun _ i _ => s.size - (intOf i).toNat)
 case atStart => exact ⟨0, Nat.zero_le _, rfl, Byt.nil _ _ _, Below.refl _ _⟩
 case round =>
  obtain ⟨k, hk, rfl, hown, hB⟩ := hrel
  have HL := κ ((lowr_len ((us s).take k)).trans (take_len s k hk))
  by_cases hlt : k < s.size
  ·have ht := κ (lowr_take s k hlt)
   by_cases hu : 65 ≤ s[k].toNat ∧ s[k].toNat ≤ 90
   ·have hx := κ (low_up s[k] hu)
    obtain ⟨hu1, hu2⟩ := hu
    go_wp2_with (at_builtin; refine wpList_appB1 (low s[k]) ?_ rfl rfl Tryz.underlying140 infoB rfl rfl hown hB (ρ _) ?_ ?_; (focus (rw [hx.out]; omega)); (focus (rw [HL.out]; omega)); intro v1 w1 ho1 hb1)
    go_roundw
    case rel => exact ⟨k + 1, by omega, by go_num, ho1.cast ht.out.symm, hb1⟩
    case measure => simp [intOf]; omega
   ·have hx := κ (low_no s[k] hu)
    have hu' : s[k].toNat < 65 ∨ 90 < s[k].toNat := by omega
    clear hu
    rcases hu' with hu | hu
    all_goals
     go_wp2_with (at_builtin; refine wpList_appB1 (low s[k]) ?_ rfl rfl Tryz.underlying140 infoB rfl rfl hown hB (ρ _) ?_ ?_; (focus (rw [hx.out])); (focus (rw [HL.out]; omega)); intro v1 w1 ho1 hb1)
     go_roundw
     case rel => exact ⟨k + 1, by omega, by go_num, ho1.cast ht.out.symm, hb1⟩
     case measure => simp [intOf]; omega
  ·go_wp2_with (refine wpList_str rfl rfl Tryz.underlying140 Tryz.underlying5 Tryz.underlying9 rfl hown ?_)
   go_ret
   exact ⟨ret_str (by first | rfl | rw [take_all s k (by omega)]), hB⟩
@[simp] theorem toList_bs (l : List UInt8) : (bs l).toList = l := by rw [toList_us, us_bs]
theorem low_mix (s : ByteArray) (k : Nat) (h : k < s.size) :
  (lowr ((us s).take k) ++ (us s).drop k)[k]? = some s[k] := by
 rw [List.getElem?_append_right (by rw [lowr_len, take_len s k (by omega)]; omega), lowr_len, take_len s k (by omega)]
 simp [drop_us s k h]
theorem low_mix_set (s : ByteArray) (k : Nat) (h : k < s.size) :
  (lowr ((us s).take k) ++ (us s).drop k).set k (low s[k]) = lowr ((us s).take (k + 1)) ++ (us s).drop (k + 1) := by
 rw [lowr_take s k h, drop_us s k h, List.set_append_right _ _ (by rw [lowr_len, take_len s k (by omega)]; omega), lowr_len, take_len s k (by omega)]
 simp
theorem low_mix_len (s : ByteArray) (k : Nat) (h : k ≤ s.size) : (lowr ((us s).take k) ++ (us s).drop k).length = s.size := by
 rw [List.length_append, lowr_len, take_len s k h, List.length_drop, length_us]; omega
theorem bytesAt.cell? {w : World} {e : TypeId} {g : Nat} {l : List UInt8} (h : bytesAt w e g l) (j : Nat) {c : UInt8} (hj : l[j]? = some c) : w.cell? ⟨g, j, none⟩ = some (.int .u8 c.toNat) := by
 obtain ⟨hj1, hj2⟩ := List.getElem?_eq_some_iff.1 hj
 rw [h.cell j hj1, hj2]; rfl
set_option maxHeartbeats 800000 in
theorem lowerP_c (s : ByteArray) (hs : s.size ≤ 9223372036854775807) (w : World) :
  Calls Tryz.prog 96 #[.string s] w fun e w' => e = .returned (.string (bs (lowr (us s)))) ∧ Below w.heap.size w w' := by
 go_enter Tryz.func96, Tryz.ntmps96
 go_wp2_with (refine wpList_bytes rfl rfl Tryz.underlying9 Tryz.underlying140 Tryz.underlying5 rfl ?_; intro cap w1 hb1 hB1 hlt1 hcap1)
 go_loopw [9] (fun i wr => ∃ k : Nat, k ≤ s.size ∧ i = .int .i64 k ∧ bytesAt wr 5 w.heap.size (lowr ((us s).take k) ++ (us s).drop k) ∧ Below w.heap.size w wr) (fun i _ => s.size - (intOf i).toNat)
 case atStart => exact ⟨0, Nat.zero_le _, rfl, by simpa [lowr] using hb1, hB1⟩
 case round =>
  obtain ⟨k, hk, rfl, hb, hB⟩ := hrel
  by_cases hlt : k < s.size
  ·have hc := hb.cell? k (low_mix s k hlt)
   have hlen := low_mix_len s k hk
   have hf := hb.free k (by omega)
   have hset := hb.set k (by omega) (low s[k])
   rw [low_mix_set s k hlt] at hset
   have HSET := κ hset
   clear hset hlen hb
   go_wp2_with (go_at_call 147; refine (lower_c _ _).mono ?_; rintro e w' ⟨rfl, rfl⟩)
   go_roundw
   case rel => exact ⟨k + 1, by omega, by go_num, HSET.out, hB.setCell (ρ _) _⟩
   case measure => simp [intOf]; omega
  ·have HB := κ hb
   clear hb
   have hkk : k = s.size := by omega
   have HK := κ (show lowr ((us s).take k) ++ (us s).drop k = lowr (us s) by rw [take_all s k (by omega), drop_us_end s k (by omega), List.append_nil])
   clear hkk
   go_wp2_with (refine wpList_strAt (l := lowr (us s)) rfl rfl Tryz.underlying140 Tryz.underlying5 Tryz.underlying9 rfl (by rw [lowr_len, length_us]) ?_ ?_; (focus (intro j hj; rw [Nat.zero_add]; exact (HK.out ▸ HB.out).cell j hj)))
   go_ret
   exact ⟨rfl, hB⟩
theorem sameR_c (s t : ByteArray) (hs : s.size ≤ 140737488355328) (ht : t.size ≤ 140737488355328) (w : World) :
  Calls Tryz.prog 192 #[.string s, .string t] w fun e w' => e = .returned (.bool (same (us s) (us t))) ∧ Below w.heap.size w w' := by
 go_enter Tryz.func192, Tryz.ntmps192
 go_wp2_with fail
 refine (lowerR_c s hs _).mono ?_
 rintro e w1 ⟨rfl, hB1⟩
 go_wp2_with fail
 refine (lowerR_c t ht _).mono ?_
 rintro e w2 ⟨rfl, hB2⟩
 go_wp2_with fail
 go_ret
 exact ⟨ret_bool (by simp [same]), hB1.trans (hB2.mono hB1.size)⟩
theorem same_drop (s t : ByteArray) (k : Nat) (h : k < s.size) (h' : k < t.size) :
  (lowr ((us s).drop k) == lowr ((us t).drop k)) = ((low s[k] == low t[k]) && (lowr ((us s).drop (k + 1)) == lowr ((us t).drop (k + 1)))) := by
 rw [drop_us s k h, drop_us t k h']; rfl
theorem u8_ne (a b : UInt8) : (((a.toNat : Nat) : Int) != ((b.toNat : Nat) : Int)) = !(a == b) := by
 rw [Bool.eq_iff_iff]
 simp
 constructor
 ·intro h e; exact h (by rw [e])
 ·intro h e; exact h (UInt8.toNat_inj.1 (by omega))
set_option maxHeartbeats 800000 in
theorem same_c (s t : ByteArray) (hs : s.size ≤ 9223372036854775807) (_ht : t.size ≤ 9223372036854775807) (w : World) :
  Calls Tryz.prog 93 #[.string s, .string t] w fun e w' => e = .returned (.bool (same (us s) (us t))) ∧ Drn w w' := by
 by_cases hne : s.size = t.size
 ·have HE := κ hne
  have hle1 : s.size ≤ t.size := by omega
  have hle2 : t.size ≤ s.size := by omega
  have hn : ((s.size : Int) != (t.size : Int)) = false := by simp [hne]
  clear hne
  go_enter Tryz.func93, Tryz.ntmps93
  go_wp2
  go_loopw [13] (fun i wr => ∃ k : Nat, k ≤ s.size ∧ i = .int .i64 k ∧ Drn w wr ∧ (lowr ((us s).drop k) == lowr ((us t).drop k)) = same (us s) (us t)) (fun i _ => s.size - (intOf i).toNat)
  case atStart => exact ⟨0, Nat.zero_le _, rfl, Drn.refl _, rfl⟩
  case round =>
   obtain ⟨k, hk, rfl, hD, hb⟩ := hrel
   have HB := κ hb; clear hb
   by_cases hlt : k < s.size
   ·have hlt' : k < t.size := by omega
    have hd := κ (same_drop s t k hlt hlt')
    have k0 : (0 : Int) ≤ (k : Int) := by omega
    have k1 : (k : Int) < (s.size : Int) := by omega
    have k2 : (k : Int) < (t.size : Int) := by omega
    by_cases hq : (low s[k] == low t[k]) = true
    ·have HQ := κ hq
     have hu := u8_ne (low s[k]) (low t[k])
     rw [hq] at hu
     clear hq
     go_wp2
     go_quiet ((go_at_call 147; exact quiet_same (lower_c _ _)))
     go_wp2
     go_roundw
     case rel => exact ⟨k + 1, by omega, by go_num, hD.step _, by rw [← HB.out, hd.out, HQ.out]; rfl⟩
     case measure => simp [intOf]; omega
    ·have hq' : (low s[k] == low t[k]) = false := by simpa using hq
     have HQ := κ hq'
     have hu := u8_ne (low s[k]) (low t[k])
     rw [hq'] at hu
     clear hq hq'
     go_wp2
     go_quiet ((go_at_call 147; exact quiet_same (lower_c _ _)))
     go_wp2
     go_ret
     exact ⟨ret_bool (by rw [← HB.out, hd.out, HQ.out]; rfl), hD.step _⟩
   ·go_wp2
    go_ret
    exact ⟨ret_bool (by rw [← HB.out, drop_us_end s k (by omega), drop_us_end t k (by omega)]; rfl), hD⟩
 ·have hn : ((s.size : Int) != (t.size : Int)) = true := by simp; omega
  have HN := κ (show same (us s) (us t) = false by
   rw [same, beq_eq_false_iff_ne]
   intro e
   have := congrArg List.length e
   rw [lowr_len, lowr_len, length_us, length_us] at this
   exact hne this)
  clear hne
  go_enter Tryz.func93, Tryz.ntmps93
  go_wp2
  go_ret
  exact ⟨ret_bool HN.out.symm, Drn.refl _⟩
end
section
open Go.RowKit
theorem cut_snoc (s : ByteArray) (k m : Nat) (h : k < m) (hm : m ≤ s.size) : ((us s).drop k).take (m - k) = ((us s).drop k).take (m - 1 - k) ++ [s[m - 1]] := by
 obtain ⟨d, hd⟩ : ∃ d, m - k = d + 1 := ⟨m - k - 1, by omega⟩
 have hd' : m - 1 - k = d := by omega
 rw [hd, hd', List.take_add_one]
 congr 1
 rw [List.getElem?_drop]
 have : k + d = m - 1 := by omega
 rw [this, get_us s (m - 1) (by omega)]; rfl
set_option maxHeartbeats 800000 in
theorem trimR_c (s : ByteArray) (hs : s.size ≤ 9223372036854775807) (w : World) :
  Calls Tryz.prog 130 #[.string s] w fun e w' => e = .returned (.string (bs (trim (us s)))) ∧ w = w' := by
 go_enter Tryz.func130, Tryz.ntmps130
 go_wp2
 go_loop [3] (fun v => ∃ k : Nat, k ≤ s.size ∧ v = .int .i64 k ∧ trimL ((us s).drop k) = trimL (us s)) (fun v => s.size - (intOf v).toNat)
 case atStart => exact ⟨0, Nat.zero_le _, rfl, rfl⟩
 case round =>
  obtain ⟨k, hk, rfl, hb⟩ := hrel
  have HB := κ hb; clear hb
  by_cases hbl : ∃ h : k < s.size, blank s[k] = true
  ·obtain ⟨hlt, hbl⟩ := hbl
   have HS := κ (show trimL ((us s).drop (k + 1)) = trimL (us s) by rw [← HB.out, drop_us s k hlt, trimL_cons, hbl]; rfl)
   rw [blank_of] at hbl
   go_wp2_with (go_at_call 162; refine (classR_c _ _).mono ?_; rintro e w' ⟨rfl, rfl⟩)
   go_round
   case rel => exact ⟨k + 1, by omega, by go_num, HS.out⟩
   case measure => simp [intOf]; omega
  ·have HT := κ (show trimR (((us s).drop k).take (s.size - k)) = trim (us s) by
    have e1 : ((us s).drop k).take (s.size - k) = (us s).drop k := List.take_of_length_le (by rw [List.length_drop, length_us]; omega)
    rw [e1, trim, ← HB.out]
    by_cases h : k < s.size
    ·have hf : blank s[k] = false := by simpa using fun hh => hbl ⟨h, hh⟩
     rw [drop_us s k h, trimL_cons, hf]; rfl
    ·rw [drop_us_end s k (by omega)]; rfl)
   have hx : (s.size ≤ k) ∨ (∃ h : k < s.size, blank s[k] = false) := by
    by_cases h : k < s.size
    ·exact .inr ⟨h, by simpa using fun hh => hbl ⟨h, hh⟩⟩
    ·exact .inl (by omega)
   clear hbl HB
   rcases hx with hx | ⟨hlt, hbf⟩
   rotate_left
   rw [blank_of] at hbf
   rotate_left
   all_goals
    go_wp2_with (go_at_call 162; refine (classR_c _ _).mono ?_; rintro e w' ⟨rfl, rfl⟩)
    go_loop [4] (fun v => ∃ m : Nat, k ≤ m ∧ m ≤ s.size ∧ v = .int .i64 m ∧ trimR (((us s).drop k).take (m - k)) = trim (us s)) (fun v => (intOf v).toNat)
    case atStart => exact ⟨s.size, hk, ρ _, rfl, HT.out⟩
    case round =>
     obtain ⟨m, hm1, hm2, rfl, hb⟩ := hrel
     have HB := κ hb; clear hb HT
     by_cases hbr : ∃ h : k < m, blank s[m - 1] = true
     ·obtain ⟨hlt, hbr⟩ := hbr
      have HS := κ (show trimR (((us s).drop k).take (m - 1 - k)) = trim (us s) by rw [← HB.out, cut_snoc s k m hlt hm2, trimR_snoc, hbr]; rfl)
      rw [blank_of] at hbr
      first
       | (exfalso; omega)
       | (
         go_wp2_with (go_at_call 162; refine (classR_c _ _).mono ?_; rintro e w' ⟨rfl, rfl⟩)
         go_round
         case rel => exact ⟨m - 1, by omega, by omega, by simp; omega, HS.out⟩
         case measure => simp [intOf]; omega)
     ·have HT := κ (show ((us s).drop k).take (m - k) = trim (us s) by
       rw [← HB.out]
       by_cases h : k < m
       ·have hf : blank s[m - 1] = false := by simpa using fun hh => hbr ⟨h, hh⟩
        rw [cut_snoc s k m h hm2, trimR_snoc, hf]; rfl
       ·have : m - k = 0 := by omega
        rw [this, List.take_zero]; rfl)
      have hx : (m ≤ k) ∨ (∃ h : k < m, blank s[m - 1] = false) := by
       by_cases h : k < m
       ·exact .inr ⟨h, by simpa using fun hh => hbr ⟨h, hh⟩⟩
       ·exact .inl (by omega)
      clear hbr HB
      rcases hx with hx | ⟨hlt, hbf⟩
      ·go_wp2
       go_ret
       exact ⟨ret_bs (by rw [us_extract, HT.out]), rfl⟩
      ·rw [blank_of] at hbf
       first
        | (exfalso; omega)
        | (
          go_wp2_with (go_at_call 162; refine (classR_c _ _).mono ?_; rintro e w' ⟨rfl, rfl⟩)
          go_ret
          exact ⟨ret_bs (by rw [us_extract, HT.out]), rfl⟩)
/-! numbers -/
theorem digit_of (c : UInt8) : testc 1 c = true → 48 ≤ c.toNat ∧ c.toNat ≤ 57 :=
 all_bytes (fun c => testc 1 c = true → 48 ≤ c.toNat ∧ c.toNat ≤ 57) (by decide +kernel) c
theorem digits_at (s : ByteArray) (h : allc 1 (us s) = true) (k : Nat) (hk : k < s.size) : 48 ≤ s[k].toNat ∧ s[k].toNat ≤ 57 := by
 have := List.all_eq_true.1 h s[k] (List.mem_of_getElem? (get_us s k hk))
 exact digit_of _ this
theorem numGo_drop (s : ByteArray) (most n : Int) (k : Nat) (h : k < s.size) :
  numGo most ((us s).drop k) n = if most < (s[k].toNat : Int) - 48 ∨ (most - ((s[k].toNat : Int) - 48)) / 10 < n then (0, 9) else numGo most ((us s).drop (k + 1)) (10 * n + ((s[k].toNat : Int) - 48)) := by
 rw [drop_us s k h]; rfl
theorem number_ok (s : ByteArray) (most : Int) (hz : s.size ≠ 0) (h : allc 1 (us s) = true) : number (us s) most = numGo most (us s) 0 := by
 unfold number; rw [if_neg]
 rintro (e | e)
 ·have := congrArg List.length e; rw [length_us] at this; exact hz (by simpa using this)
 ·rw [h] at e; cases e
set_option maxHeartbeats 1600000 in
theorem number_c (s : ByteArray) (hs : s.size ≤ 9223372036854775807) (most : Int) (h0 : -9223372036854775808 ≤ most) (h1 : most ≤ 9223372036854775807) (w : World) :
  Calls Tryz.prog 53 #[.string s, .int .i64 most] w fun e w' => e = .returned (.tuple #[.int .i64 (number (us s) most).1, .int .i64 (number (us s) most).2]) ∧ w = w' := by
 by_cases hz : s.size = 0
 ·obtain rfl := eq_empty hz
  clear hz hs
  go_enter Tryz.func53, Tryz.ntmps53
  go_wp2
  all_goals (go_ret2; exact ⟨rfl, rfl⟩)
 by_cases ha : allc 1 (us s) = true
 ·have HN := κ (number_ok s most hz ha)
  have HA := κ ha
  have i1 := isEmpty_f hz
  have i2 := ne_empty hz
  go_enter Tryz.func53, Tryz.ntmps53
  go_wp2_with (go_at_call 78; refine (all_c _ hs _ _).mono ?_; rintro e w' ⟨rfl, rfl⟩)
  clear ha
  go_loop [6, 18] (fun v i => ∃ (k : Nat) (n : Int), k ≤ s.size ∧ i = .int .i64 k ∧ v = .int .i64 n ∧ 0 ≤ n ∧ n ≤ 9223372036854775807 ∧ numGo most ((us s).drop k) n = numGo most (us s) 0) (fun _ i => s.size - (intOf i).toNat)
  case atStart => exact ⟨0, 0, Nat.zero_le _, rfl, rfl, by omega, by omega, rfl⟩
  case round =>
   obtain ⟨k, n, hk, rfl, rfl, n0, n1, hb⟩ := hrel
   have HB := κ hb; clear hb
   by_cases hlt : k < s.size
   ·obtain ⟨d0, d1⟩ := digits_at s HA.out k hlt
    have hd := κ (numGo_drop s most n k hlt)
    by_cases hc1 : most < (s[k].toNat : Int) - 48
    ·go_wp2
     go_ret2
     exact ⟨by rw [HN.out, ← HB.out, hd.out, if_pos (.inl hc1)]; rfl, rfl⟩
    ·have hc1' : (s[k].toNat : Int) - 48 ≤ most := by omega
     by_cases hc2 : (most - ((s[k].toNat : Int) - 48)) / 10 < n
     ·go_wp2
      go_ret2
      exact ⟨by rw [HN.out, ← HB.out, hd.out, if_pos (.inr hc2)]; rfl, rfl⟩
     ·go_wp2
      go_round
      case rel => exact ⟨k + 1, _, by omega, by go_num, rfl, by omega, by omega, by rw [← HB.out, hd.out, if_neg (by omega)]⟩
      case measure => simp [intOf]; omega
   ·go_wp2
    go_ret2
    exact ⟨by rw [HN.out, ← HB.out, drop_us_end s k (by omega)]; rfl, rfl⟩
 ·have ha' : allc 1 (us s) = false := by simpa using ha
  have HN := κ (show number (us s) most = (0, 10) by unfold number; rw [if_pos (.inr ha')])
  clear ha
  have i1 := isEmpty_f hz
  have i2 := ne_empty hz
  go_enter Tryz.func53, Tryz.ntmps53
  go_wp2_with (go_at_call 78; refine (all_c _ hs _ _).mono ?_; rintro e w' ⟨rfl, rfl⟩)
  go_ret2
  exact ⟨by rw [HN.out]; rfl, rfl⟩
set_option maxHeartbeats 1600000 in
theorem numberR_c (s : ByteArray) (hs : s.size ≤ 9223372036854775807) (most : Int) (h0 : -9223372036854775808 ≤ most) (h1 : most ≤ 9223372036854775807) (w : World) :
  Calls Tryz.prog 171 #[.string s, .int .i64 most] w fun e w' => e = .returned (.tuple #[.int .i64 (number (us s) most).1, .int .i64 (number (us s) most).2]) ∧ w = w' := by
 by_cases hz : s.size = 0
 ·obtain rfl := eq_empty hz
  clear hz hs
  go_enter Tryz.func171, Tryz.ntmps171
  go_wp2
  all_goals (go_ret2; exact ⟨rfl, rfl⟩)
 by_cases ha : allc 1 (us s) = true
 ·have HN := κ (number_ok s most hz ha)
  have HA := κ ha
  have i1 := isEmpty_f hz
  have i2 := ne_empty hz
  go_enter Tryz.func171, Tryz.ntmps171
  go_wp2_with (go_at_call 117; refine (allR_c _ hs _ _).mono ?_; rintro e w' ⟨rfl, rfl⟩)
  clear ha
  go_loop [6, 7] (fun v i => ∃ (k : Nat) (n : Int), k ≤ s.size ∧ i = .int .i64 k ∧ v = .int .i64 n ∧ 0 ≤ n ∧ n ≤ 9223372036854775807 ∧ numGo most ((us s).drop k) n = numGo most (us s) 0) (fun _ i => s.size - (intOf i).toNat)
  case atStart => exact ⟨0, 0, Nat.zero_le _, rfl, rfl, by omega, by omega, rfl⟩
  case round =>
   obtain ⟨k, n, hk, rfl, rfl, n0, n1, hb⟩ := hrel
   have HB := κ hb; clear hb
   by_cases hlt : k < s.size
   ·obtain ⟨d0, d1⟩ := digits_at s HA.out k hlt
    have hd := κ (numGo_drop s most n k hlt)
    by_cases hc0 : 922337203685477580 < n
    ·go_wp2
     go_ret2
     exact ⟨by rw [HN.out, ← HB.out, hd.out, if_pos (by omega)]; rfl, rfl⟩
    have hc0' : n ≤ 922337203685477580 := by omega
    clear hc0
    by_cases hc1 : most < (s[k].toNat : Int) - 48
    ·go_wp2
     go_ret2
     exact ⟨by rw [HN.out, ← HB.out, hd.out, if_pos (.inl hc1)]; rfl, rfl⟩
    ·have hc1' : (s[k].toNat : Int) - 48 ≤ most := by omega
     by_cases hc2 : most - ((s[k].toNat : Int) - 48) < 10 * n
     ·go_wp2
      go_ret2
      exact ⟨by rw [HN.out, ← HB.out, hd.out, if_pos (by omega)]; rfl, rfl⟩
     ·go_wp2
      go_round
      case rel => exact ⟨k + 1, _, by omega, by go_num, rfl, by omega, by omega, by rw [← HB.out, hd.out, if_neg (by omega)]⟩
      case measure => simp [intOf]; omega
   ·go_wp2
    go_ret2
    exact ⟨by rw [HN.out, ← HB.out, drop_us_end s k (by omega)]; rfl, rfl⟩
 ·have ha' : allc 1 (us s) = false := by simpa using ha
  have HN := κ (show number (us s) most = (0, 10) by unfold number; rw [if_pos (.inr ha')])
  clear ha
  have i1 := isEmpty_f hz
  have i2 := ne_empty hz
  go_enter Tryz.func171, Tryz.ntmps171
  go_wp2_with (go_at_call 117; refine (allR_c _ hs _ _).mono ?_; rintro e w' ⟨rfl, rfl⟩)
  go_ret2
  exact ⟨by rw [HN.out]; rfl, rfl⟩
end
section
open Go.RowKit
theorem ret_si {s : ByteArray} {p : List UInt8 × Int} {n : Int} (h : (us s, n) = p) : Ending.returned (.tuple #[.string s, .int .i64 n]) = .returned (.tuple #[.string (bs p.1), .int .i64 p.2]) := by
 rw [← h, bs_us]
theorem us_append (a b : ByteArray) : us (a ++ b) = us a ++ us b := by simp [us, ByteArray.data_append]
theorem broken_yes (c : UInt8) (h : broken c = true) : ((c.toNat : Int) == 0) = true ∨ (((c.toNat : Int) == 0) = false ∧ ((c.toNat : Int) == 13) = true) ∨ (((c.toNat : Int) == 0) = false ∧ ((c.toNat : Int) == 13) = false ∧ ((c.toNat : Int) == 10) = true) := by
 simp [broken] at h; simp; omega
theorem broken_no (c : UInt8) (h : broken c = false) : ((c.toNat : Int) == 0) = false ∧ ((c.toNat : Int) == 13) = false ∧ ((c.toNat : Int) == 10) = false := by
 simp [broken] at h; simp; omega
theorem any_take (s : ByteArray) (f : UInt8 → Bool) (k : Nat) (h : k < s.size) : ((us s).take (k + 1)).any f = (((us s).take k).any f || f s[k]) := by
 rw [take_us s k h, List.any_append]; simp
theorem any_found (s : ByteArray) (f : UInt8 → Bool) (k : Nat) (h : k < s.size) (hf : f s[k] = true) : (us s).any f = true :=
 List.any_eq_true.2 ⟨s[k], List.mem_of_getElem? (get_us s k h), hf⟩
theorem flat_take (s : ByteArray) (f : UInt8 → List UInt8) (k : Nat) (h : k < s.size) : ((us s).take (k + 1)).flatMap f = ((us s).take k).flatMap f ++ f s[k] := by
 rw [take_us s k h, List.flatMap_append]; simp
theorem flat_len (l : List UInt8) (f : UInt8 → List UInt8) (m : Nat) (hf : ∀ c, (f c).length ≤ m) : (l.flatMap f).length ≤ m * l.length := by
 induction l with
 | nil => simp
 | cons c r ih => rw [List.flatMap_cons, List.length_append, List.length_cons, Nat.mul_succ]; have := hf c; omega
theorem qbyte_len (c : UInt8) : (qbyte c).length ≤ 2 := by unfold qbyte; split <;> simp
theorem flat_bd (s : ByteArray) (f : UInt8 → List UInt8) (m k : Nat) (hf : ∀ c, (f c).length ≤ m) (hk : k ≤ s.size) : (((us s).take k).flatMap f).length ≤ m * k := by
 have := flat_len ((us s).take k) f m hf
 rwa [take_len s k hk] at this
theorem quote_ok (l : List UInt8) (h : l.any broken = false) : quote l = (34 :: (l.flatMap qbyte ++ [34]), 0) := by unfold quote; rw [h]; rfl
theorem quote_no (l : List UInt8) (h : l.any broken = true) : quote l = ([], 11) := by unfold quote; rw [h]; rfl
set_option maxHeartbeats 1600000 in
theorem quote_c (s : ByteArray) (hs : s.size ≤ 35184372088832) (w : World) :
  Calls Tryz.prog 80 #[.string s] w fun e w' => e = .returned (.tuple #[.string (bs (quote (us s)).1), .int .i64 (quote (us s)).2]) ∧ Below w.heap.size w w' := by
 go_enter Tryz.func80, Tryz.ntmps80
 go_wp2
 go_loopw [4, 10] (fun v i wr => ∃ k : Nat, k ≤ s.size ∧ i = .int .i64 k ∧ Byt wr w.heap.size 5 v (34 :: ((us s).take k).flatMap qbyte) ∧ ((us s).take k).any broken = false ∧ Below w.heap.size w wr) (fun _ i _ => s.size - (intOf i).toNat)
 case atStart => exact ⟨0, Nat.zero_le _, rfl, World.ownsRow_lit w #[.int .u8 34] 1 (ρ _) (by decide) rfl, rfl, (Below.refl _ _).alloc (ρ _) _⟩
 case round =>
  obtain ⟨k, hk, rfl, hown, hany, hB⟩ := hrel
  have HA := κ hany; clear hany
  have HL := κ (flat_bd s qbyte 2 k qbyte_len hk)
  by_cases hlt : k < s.size
  ·have ht := κ (flat_take s qbyte k hlt)
   have ha := κ (any_take s broken k hlt)
   by_cases hbk : broken s[k] = true
   ·have HF := κ (quote_no (us s) (any_found s broken k hlt hbk))
    have hy := broken_yes s[k] hbk
    clear hbk
    rcases hy with h0 | ⟨h0, h1⟩ | ⟨h0, h1, h2⟩
    all_goals
     go_wp2
     go_ret2
     exact ⟨ret_si (by rw [HF.out]; rfl), hB⟩
   ·have hbk' : broken s[k] = false := by simpa using hbk
    have HK := κ (show ((us s).take (k + 1)).any broken = false by rw [ha.out, HA.out, hbk']; rfl)
    obtain ⟨h0, h1, h2⟩ := broken_no s[k] hbk'
    clear hbk hbk'
    by_cases hbr : bare s[k] = true
    ·have HQ := κ (show qbyte s[k] = [s[k]] by unfold qbyte; rw [hbr]; rfl)
     go_wp2_with (first | (go_at_call 140; refine (bare_c _ _).mono ?_; rintro e w' ⟨rfl, rfl⟩) | (at_builtin; refine wpList_appB1 s[k] rfl rfl rfl Tryz.underlying140 infoB rfl rfl hown hB (ρ _) ?_ ?_; (focus (rw [List.length_cons]; have := HL.out; omega)); intro v1 w1 ho1 hb1))
     go_roundw
     case rel => exact ⟨k + 1, by omega, by go_num, ho1.cast (by rw [ht.out, HQ.out]; rfl), HK.out, hb1⟩
     case measure => simp [intOf]; omega
    ·have hbr' : bare s[k] = false := by simpa using hbr
     clear hbr
     have HQ := κ (show qbyte s[k] = [92, s[k]] by unfold qbyte; rw [hbr']; rfl)
     go_wp2_with (first | (go_at_call 140; refine (bare_c _ _).mono ?_; rintro e w' ⟨rfl, rfl⟩) | (at_builtin; refine wpList_appB2 92 s[k] rfl rfl rfl rfl Tryz.underlying140 infoB rfl rfl hown hB (ρ _) ?_ ?_; (focus (rw [List.length_cons]; have := HL.out; omega)); intro v1 w1 ho1 hb1))
     go_roundw
     case rel => exact ⟨k + 1, by omega, by go_num, ho1.cast (by rw [ht.out, HQ.out]; rfl), HK.out, hb1⟩
     case measure => simp [intOf]; omega
  ·have HF := κ (quote_ok (us s) (by rw [← HA.out, take_all s k (by omega)]))
   have hown' := κ (take_all s k (by omega))
   go_wp2_with (first | (at_builtin; refine wpList_appB1 34 rfl rfl rfl Tryz.underlying140 infoB rfl rfl hown hB (ρ _) ?_ ?_; (focus (rw [List.length_cons]; have := HL.out; omega)); intro v1 w1 ho1 hb1) | (refine wpList_str rfl rfl Tryz.underlying140 Tryz.underlying5 Tryz.underlying9 rfl ho1 ?_))
   go_ret2
   exact ⟨ret_si (by rw [HF.out, us_bs, hown'.out]), hb1⟩
end
section
open Go.RowKit
theorem u8_eq {c : UInt8} {n : Nat} (h : c.toNat = n) (hn : n < 256) : c = UInt8.ofNat n := by
 apply UInt8.toNat_inj.1; rw [h]; simp; omega
theorem unquote_bad (s : ByteArray) (h : s.size < 2 ∨ (∃ h : 0 < s.size, s[0].toNat ≠ 34) ∨ (∃ h : 0 < s.size, s[s.size - 1].toNat ≠ 34)) : unquote (us s) = ([], 11) := by
 unfold unquote; rw [if_pos]
 rcases h with h | ⟨h, h'⟩ | ⟨h, h'⟩
 ·left; rw [length_us]; exact h
 ·right; left; rw [us_cons s h]; simp only [List.head?_cons]; intro e; injection e with e; rw [e] at h'; exact h' rfl
 ·right; right; rw [us_snoc s h, List.getLast?_append]; simp only [List.getLast?_singleton, Option.some_or]; intro e; injection e with e; rw [e] at h'; exact h' rfl
theorem unquote_ok (s : ByteArray) (h2 : 2 ≤ s.size) (h0 : s[0].toNat = 34) (h1 : s[s.size - 1].toNat = 34) :
  unquote (us s) = okOr 11 (unqGo (us (s.extract 1 (s.size - 1)))) := by
 unfold unquote; rw [if_neg, us_extract, length_us]
 ·have : s.size - 2 = s.size - 1 - 1 := by omega
  rw [this]
 ·rw [length_us]
  rintro (h | h | h)
  ·omega
  ·rw [us_cons s (by omega)] at h; simp only [List.head?_cons] at h; exact h (by rw [u8_eq h0 (by omega)]; rfl)
  ·rw [us_snoc s (by omega), List.getLast?_append] at h; simp only [List.getLast?_singleton, Option.some_or] at h; exact h (by rw [u8_eq h1 (by omega)]; rfl)
theorem unq_esc (s : ByteArray) (k : Nat) (h : k + 1 < s.size) (hc : s[k].toNat = 92) :
  unqGo ((us s).drop k) = if broken s[k + 1] || decide (127 < s[k + 1].toNat) then none else (unqGo ((us s).drop (k + 2))).map (s[k + 1] :: ·) := by
 rw [drop_us s k (by omega), drop_us s (k + 1) h]
 simp only [unqGo, hc]; rfl
theorem unq_one (s : ByteArray) (k : Nat) (h : k < s.size) (hc : s[k].toNat ≠ 92 ∨ s.size ≤ k + 1) :
  unqGo ((us s).drop k) = if bare s[k] then (unqGo ((us s).drop (k + 1))).map (s[k] :: ·) else none := by
 rw [drop_us s k h]
 by_cases h1 : k + 1 < s.size
 ·rw [drop_us s (k + 1) h1]
  have : s[k].toNat ≠ 92 := by omega
  simp only [unqGo, if_neg this]
 ·rw [drop_us_end s (k + 1) (by omega)]
  simp only [unqGo, Option.map_some]
theorem opt_map_map {f : List UInt8 → List UInt8} {g : List UInt8 → List UInt8} (x : Option (List UInt8)) : (x.map f).map g = x.map (fun y => g (f y)) := by
 cases x <;> rfl
theorem unq_step {x y z : Option (List UInt8)} {acc : List UInt8} {c : UInt8} (h : x = y.map (acc ++ ·)) (h' : y = z.map (c :: ·)) : x = z.map ((acc ++ [c]) ++ ·) := by
 rw [h, h', opt_map_map]; congr; funext r; simp
theorem unquote_cases (s : ByteArray) : (s.size < 2 ∨ (∃ h : 2 ≤ s.size, ((s[0].toNat : Int) != 34) = true) ∨ (∃ h : 2 ≤ s.size, ((s[0].toNat : Int) != 34) = false ∧ ((s[s.size - 1].toNat : Int) != 34) = true)) ∧ unquote (us s) = ([], 11) ∨
  ∃ h : 2 ≤ s.size, ((s[0].toNat : Int) != 34) = false ∧ ((s[s.size - 1].toNat : Int) != 34) = false ∧ unquote (us s) = okOr 11 (unqGo (us (s.extract 1 (s.size - 1)))) := by
 by_cases h2 : s.size < 2
 ·exact .inl ⟨.inl h2, unquote_bad s (.inl h2)⟩
 by_cases h3 : s[0].toNat = 34
 ·by_cases h4 : s[s.size - 1].toNat = 34
  ·exact .inr ⟨by omega, by simp; omega, by simp; omega, unquote_ok s (by omega) h3 h4⟩
  ·exact .inl ⟨.inr (.inr ⟨by omega, by simp; omega, by simp; omega⟩), unquote_bad s (.inr (.inr ⟨by omega, h4⟩))⟩
 ·exact .inl ⟨.inr (.inl ⟨by omega, by simp; omega⟩), unquote_bad s (.inr (.inl ⟨by omega, h3⟩))⟩
set_option maxHeartbeats 3200000 in
theorem unquote_c (s : ByteArray) (hs : s.size ≤ 140737488355328) (w : World) :
  Calls Tryz.prog 105 #[.string s] w fun e w' => e = .returned (.tuple #[.string (bs (unquote (us s)).1), .int .i64 (unquote (us s)).2]) ∧ Below w.heap.size w w' := by
 rcases unquote_cases s with ⟨hx, hF⟩ | ⟨h2, g3, g4, hU⟩
 ·have HF := κ hF
  clear hF
  rcases hx with h2 | ⟨h2, h3⟩ | ⟨h2, h3, h4⟩
  all_goals
   go_enter Tryz.func105, Tryz.ntmps105
   go_wp2
   go_ret2
   exact ⟨ret_si (by rw [HF.out]; rfl), Below.refl _ _⟩
 ·have HU := κ hU
  clear hU
  have hts : (s.extract 1 (s.size - 1)).size = s.size - 2 := by rw [size_extract _ _ _ (by omega)]; omega
  obtain ⟨t, ht⟩ : ∃ t, t = s.extract 1 (s.size - 1) := ⟨_, rfl⟩
  rw [← ht] at hts HU
  have hts' : t.size ≤ 140737488355328 := by omega
  have HTT := κ ht
  clear ht hts
  go_enter Tryz.func105, Tryz.ntmps105
  go_wp2
  rw [← HTT.out]
  go_loopw [5, 6] (fun v i wr => ∃ (k : Nat) (acc : List UInt8), k ≤ t.size ∧ i = .int .i64 k ∧ Byt wr w.heap.size 5 v acc ∧ acc.length ≤ k ∧ unqGo (us t) = (unqGo ((us t).drop k)).map (acc ++ ·) ∧ Below w.heap.size w wr) (fun _ i _ => t.size - (intOf i).toNat)
  case atStart => exact ⟨0, [], Nat.zero_le _, rfl, Byt.nil _ _ _, ρ _, by simp, Below.refl _ _⟩
  case round =>
   obtain ⟨k, acc, hk, rfl, hown, hal, hu, hB⟩ := hrel
   have HB := κ hu; clear hu
   by_cases hlt : k < t.size
   ·by_cases he : k + 1 < t.size ∧ t[k].toNat = 92
    ·obtain ⟨he1, he2⟩ := he
     have HD := κ (unq_esc t k he1 he2)
     have q0 : ((t[k].toNat : Int) == 92) = true := by simp; omega
     clear he2
     by_cases hb : broken t[k + 1] = true
     ·have HF := κ (show unquote (us s) = ([], 11) by rw [HU.out, HB.out, HD.out, hb]; rfl)
      have hy := broken_yes t[k + 1] hb
      clear hb
      rcases hy with h0 | ⟨h0, h1⟩ | ⟨h0, h1, h2⟩
      all_goals
       go_wp2
       go_ret2
       exact ⟨ret_si (by rw [HF.out]; rfl), hB⟩
     ·have hb' : broken t[k + 1] = false := by simpa using hb
      have HBB := κ hb'
      obtain ⟨h0, h1, h2⟩ := broken_no t[k + 1] hb'
      clear hb hb'
      by_cases hg : 127 < t[k + 1].toNat
      ·have HF := κ (show unquote (us s) = ([], 11) by rw [HU.out, HB.out, HD.out, HBB.out, decide_eq_true hg]; rfl)
       go_wp2
       go_ret2
       exact ⟨ret_si (by rw [HF.out]; rfl), hB⟩
      ·have hg' : t[k + 1].toNat ≤ 127 := by omega
       have HS := κ (unq_step HB.out (show unqGo ((us t).drop k) = (unqGo ((us t).drop (k + 2))).map (t[k + 1] :: ·) by rw [HD.out, HBB.out, decide_eq_false hg]; rfl))
       clear hg
       go_wp2_with (at_builtin; refine wpList_appB1 t[k + 1] rfl rfl rfl Tryz.underlying140 infoB rfl rfl hown hB (ρ _) ?_ ?_; (focus omega); intro v1 w1 ho1 hb1)
       go_roundw
       case rel => exact ⟨k + 2, _, by omega, by simp; omega, ho1, by simp; omega, HS.out, hb1⟩
       case measure => simp [intOf]; omega
    ·have HD := κ (unq_one t k hlt (by omega))
     by_cases hb : bare t[k] = true
     ·have HS := κ (unq_step HB.out (show unqGo ((us t).drop k) = (unqGo ((us t).drop (k + 1))).map (t[k] :: ·) by rw [HD.out, hb]; rfl))
      have q0 : ((t[k].toNat : Int) == 92) = false := by
       have := (bare_iff t[k]).1 hb
       simp; omega
      clear he
      go_wp2_with (first | (go_at_call 140; refine (bare_c _ _).mono ?_; rintro e w' ⟨rfl, rfl⟩) | (at_builtin; refine wpList_appB1 t[k] rfl rfl rfl Tryz.underlying140 infoB rfl rfl hown hB (ρ _) ?_ ?_; (focus omega); intro v1 w1 ho1 hb1))
      go_roundw
      case rel => exact ⟨k + 1, _, by omega, by go_num, ho1, by simp; omega, HS.out, hb1⟩
      case measure => simp [intOf]; omega
     ·have hb' : bare t[k] = false := by simpa using hb
      have HF := κ (show unquote (us s) = ([], 11) by rw [HU.out, HB.out, HD.out, hb']; rfl)
      have hq : (((t[k].toNat : Int) == 92) = true ∧ t.size ≤ k + 1) ∨ ((t[k].toNat : Int) == 92) = false := by
       simp; omega
      clear hb he
      rcases hq with ⟨q0, q1⟩ | q0
      all_goals
       go_wp2_with (go_at_call 140; refine (bare_c _ _).mono ?_; rintro e w' ⟨rfl, rfl⟩)
       go_ret2
       exact ⟨ret_si (by rw [HF.out]; rfl), hB⟩
   ·have HF := κ (show unquote (us s) = (acc, 0) by rw [HU.out, HB.out, drop_us_end t k (by omega)]; simp [unqGo, okOr])
    go_wp2_with (refine wpList_str rfl rfl Tryz.underlying140 Tryz.underlying5 Tryz.underlying9 rfl hown ?_)
    go_ret2
    exact ⟨ret_si (by rw [HF.out]; simp), hB⟩
end
section
open Go.RowKit
@[simp] theorem get_bs (l : List UInt8) (i : Nat) (h : i < (bs l).size) : (bs l)[i] = l[i]'(by rw [size_bs] at h; exact h) := by
 have h1 := get_us (bs l) i h
 rw [us_bs] at h1
 have h2 : i < l.length := by rw [size_bs] at h; exact h
 rw [List.getElem?_eq_getElem h2] at h1
 exact (Option.some.inj h1).symm
theorem unesc_ne (c : UInt8) (r : List UInt8) (h : c.toNat ≠ 37) : unesc (c :: r) = (unesc r).map (c :: ·) := by
 match r with
 | [] => simp only [unesc, if_neg h]
 | [a] => rw [unesc.eq_def]; simp only [if_neg h]
 | a :: b :: r' => rw [unesc.eq_def]; simp only [if_neg h]
theorem unesc_plain (s : ByteArray) (k : Nat) (h : k < s.size) (hc : s[k].toNat ≠ 37) : unesc ((us s).drop k) = (unesc ((us s).drop (k + 1))).map (s[k] :: ·) := by
 rw [drop_us s k h, unesc_ne _ _ hc]
theorem unesc_two (s : ByteArray) (k : Nat) (h : k + 2 < s.size) (hc : s[k].toNat = 37) :
  unesc ((us s).drop k) = if testc 4 s[k + 1] && testc 4 s[k + 2] then (unesc ((us s).drop (k + 3))).map (UInt8.ofNat (16 * worth s[k + 1] + worth s[k + 2]) :: ·) else none := by
 rw [drop_us s k (by omega), drop_us s (k + 1) (by omega), drop_us s (k + 2) h]; simp only [unesc, if_pos hc]
theorem unesc_short (s : ByteArray) (k : Nat) (h : k < s.size) (h2 : s.size ≤ k + 2) (hc : s[k].toNat = 37) : unesc ((us s).drop k) = none := by
 rw [drop_us s k h]
 by_cases h1 : k + 1 < s.size
 ·rw [drop_us s (k + 1) h1, drop_us_end s (k + 2) h2]; simp only [unesc, if_pos hc]
 ·rw [drop_us_end s (k + 1) (by omega)]; simp only [unesc, if_pos hc]
theorem hex_or (a b : Nat) (ha : a < 16) (hb : b < 16) : bits BinOp.or IntKind.u8 (IntKind.u8.wrap ((a : Int) * 16)) b = ((UInt8.ofNat (16 * a + b)).toNat : Int) := by
 have := (by decide +kernel : ∀ a b : Fin 16, bits BinOp.or IntKind.u8 (IntKind.u8.wrap ((a.val : Int) * 16)) b.val = ((UInt8.ofNat (16 * a.val + b.val)).toNat : Int))
 exact this ⟨a, ha⟩ ⟨b, hb⟩
theorem two_us (s : ByteArray) (k : Nat) (h : k + 2 < s.size) : us (s.extract (k + 1) (k + 3)) = [s[k + 1], s[k + 2]] := by
 rw [us_extract, drop_us s (k + 1) (by omega), drop_us s (k + 2) h]
 have : k + 3 - (k + 1) = 2 := by omega
 rw [this]; rfl
theorem all_two (s : ByteArray) (k : Nat) (h : k + 2 < s.size) (w : World) :
  Calls Tryz.prog 78 #[.string (s.extract (k + 1) (k + 3)), .int .i64 4] w fun e w' => e = .returned (.bool (testc 4 s[k + 1] && testc 4 s[k + 2])) ∧ w = w' := by
 have := all_c (s.extract (k + 1) (k + 3)) (by rw [size_extract _ _ _ (by omega)]; omega) 4 w
 rw [two_us s k h] at this
 have e : allc 4 [s[k + 1], s[k + 2]] = (testc 4 s[k + 1] && testc 4 s[k + 2]) := by simp [allc]
 rw [← e]; exact this
theorem nmW : (Tryz.f190.name == "runtime.NumGoroutine") = false := by kernel_rfl
theorem bdW : Tryz.f190.body.isNone = false := by kernel_rfl
set_option maxHeartbeats 3200000 in
theorem unescape_c (s : ByteArray) (hs : s.size ≤ 140737488355328) (w : World) :
  Calls Tryz.prog 159 #[.string s] w fun e w' => e = .returned (.tuple #[.string (bs (unescape (us s)).1), .int .i64 (unescape (us s)).2]) ∧ Below w.heap.size w w' := by
 go_enter Tryz.func159, Tryz.ntmps159
 go_wp2
 go_loopw [4, 5] (fun v i wr => ∃ (k : Nat) (acc : List UInt8), k ≤ s.size ∧ i = .int .i64 k ∧ Byt wr w.heap.size 5 v acc ∧ acc.length ≤ k ∧ unesc (us s) = (unesc ((us s).drop k)).map (acc ++ ·) ∧ Below w.heap.size w wr) (fun _ i _ => s.size - (intOf i).toNat)
 case atStart => exact ⟨0, [], Nat.zero_le _, rfl, Byt.nil _ _ _, ρ _, by simp, Below.refl _ _⟩
 case round =>
  obtain ⟨k, acc, hk, rfl, hown, hal, hu, hB⟩ := hrel
  have HB := κ hu; clear hu
  by_cases hlt : k < s.size
  ·by_cases hc : s[k].toNat = 37
   ·have q0 : ((s[k].toNat : Int) != 37) = false := by simp; omega
    by_cases h2 : k + 2 < s.size
    ·have HD := κ (unesc_two s k h2 hc)
     clear hc
     cases ht : testc 4 s[k + 1] && testc 4 s[k + 2] with
     | false =>
      have HF := κ (show unescape (us s) = ([], 12) by rw [unescape, HB.out, HD.out, ht]; rfl)
      go_wp2_with (go_at_call 78; refine (all_two s k h2 _).mono ?_; rintro e w' ⟨rfl, rfl⟩)
      go_ret2
      exact ⟨ret_si (by rw [HF.out]; rfl), hB⟩
     | true =>
      have HS := κ (unq_step HB.out (show unesc ((us s).drop k) = (unesc ((us s).drop (k + 3))).map (UInt8.ofNat (16 * worth s[k + 1] + worth s[k + 2]) :: ·) by rw [HD.out, ht]; rfl))
      have ht' : testc 4 s[k + 1] = true ∧ testc 4 s[k + 2] = true := by simpa using ht
      obtain ⟨ta, tb⟩ := ht'
      have TA := κ ta
      have TB := κ tb
      have wa := (worth_v _ ta).2.2
      have wb := (worth_v _ tb).2.2
      go_wp2_with (go_at_call 78; refine (all_two s k h2 _).mono ?_; rintro e w' ⟨rfl, rfl⟩)
      clear ta tb ht
      have p1 : k + 1 < s.size := by omega
      have p2 : k + 2 < s.size := by omega
      have hbd : acc.length + 1 ≤ 140737488355328 := by omega
      have k1 : (0 : Int) ≤ (k : Int) + 1 := by omega
      have k2 : (k : Int) + 1 < (s.size : Int) := by omega
      have k3 : (0 : Int) ≤ (k : Int) + 2 := by omega
      have k4 : (k : Int) + 2 < (s.size : Int) := by omega
      have k5 : ((k : Int) + 1).toNat = k + 1 := by omega
      have k6 : ((k : Int) + 2).toNat = k + 2 := by omega
      have k7 : IntKind.i64.wrap ((k : Int) + 1) = (k : Int) + 1 := IntWalk.i64_in _ (by omega)
      have k8 : IntKind.i64.wrap ((k : Int) + 2) = (k : Int) + 2 := IntWalk.i64_in _ (by omega)
      go_region_law (first | (refine step_call1 (v0 := .int .u8 (s[k + 1]'p1).toNat) (v := .int .u8 (worth (s[k + 1]'p1))) rfl rfl Tryz.func190 nmW bdW ?_ ?_ ?_; (focus rfl); (focus (exact worth_c _ TA.out _))) | (refine step_call1 (v0 := .int .u8 (s[k + 2]'p2).toNat) (v := .int .u8 (worth (s[k + 2]'p2))) rfl rfl Tryz.func190 nmW bdW ?_ ?_ ?_; (focus rfl); (focus (exact worth_c _ TB.out _))) | (refine step_appB1 (UInt8.ofNat (16 * worth (s[k + 1]'p1) + worth (s[k + 2]'p2))) (hex_or _ _ wa wb) rfl rfl Tryz.underlying140 infoB rfl rfl hown.drew hB.drew (ρ _) hbd ?_; intro v1 w1 ho1 hb1))
      all_goals
       try clear k7
       try clear k8
       try clear k5
       try clear k6
       go_wp2
       go_roundw
       case rel => exact ⟨k + 3, _, by omega, by simp; omega, ho1, by simp; omega, HS.out, hb1⟩
       case measure => simp [intOf]; omega
    ·have HF := κ (show unescape (us s) = ([], 12) by rw [unescape, HB.out, unesc_short s k hlt (by omega) hc]; rfl)
     clear hc
     go_wp2
     go_ret2
     exact ⟨ret_si (by rw [HF.out]; rfl), hB⟩
   ·have q0 : ((s[k].toNat : Int) != 37) = true := by simp; omega
    have HS := κ (unq_step HB.out (unesc_plain s k hlt hc))
    clear hc
    go_wp2_with (at_builtin; refine wpList_appB1 s[k] rfl rfl rfl Tryz.underlying140 infoB rfl rfl hown hB (ρ _) ?_ ?_; (focus omega); intro v1 w1 ho1 hb1)
    go_roundw
    case rel => exact ⟨k + 1, _, by omega, by go_num, ho1, by simp; omega, HS.out, hb1⟩
    case measure => simp [intOf]; omega
  ·have HF := κ (show unescape (us s) = (acc, 0) by rw [unescape, HB.out, drop_us_end s k (by omega)]; simp [unesc, okOr])
   go_wp2_with (refine wpList_str rfl rfl Tryz.underlying140 Tryz.underlying5 Tryz.underlying9 rfl hown ?_)
   go_ret2
   exact ⟨ret_si (by rw [HF.out]; simp), hB⟩
end
section
open Go.RowKit
theorem infoS : infoIs Tryz.prog 9 (.string ⟨#[]⟩) 1 16 := by unfold infoIs; kernel_rfl
theorem pg_esc (sep : UInt8) (a : Bool) (cur : List UInt8) (s : ByteArray) (k : Nat) (h : k < s.size) (hc : s[k].toNat = 92) :
  partsGo sep true a cur ((us s).drop k) = partsGo sep true a (cur ++ ((us s).drop k).take 2) ((us s).drop (k + 2)) := by
 rw [drop_us s k h]
 by_cases h1 : k + 1 < s.size
 ·rw [drop_us s (k + 1) h1]; simp [partsGo, hc]
 ·rw [drop_us_end s (k + 1) (by omega), drop_us_end s (k + 2) (by omega)]; simp [partsGo, hc]
theorem pg_cons (sep : UInt8) (q a : Bool) (cur : List UInt8) (c : UInt8) (r : List UInt8) (h : ¬ (q = true ∧ c.toNat = 92)) :
  partsGo sep q a cur (c :: r) = if c.toNat = 34 then partsGo sep (!q) a (cur ++ [c]) r
  else if q = true then partsGo sep q a (cur ++ [c]) r
  else if c.toNat = 60 then partsGo sep q true (cur ++ [c]) r
  else if c.toNat = 62 then partsGo sep q false (cur ++ [c]) r
  else if c.toNat = sep.toNat ∧ a = false then cur :: partsGo sep q a [] r
  else partsGo sep q a (cur ++ [c]) r := by
 rw [partsGo.eq_def]; simp only [if_neg h]
def piece (s : ByteArray) (fr k : Nat) : List UInt8 := ((us s).drop fr).take (k - fr)
theorem piece_snoc (s : ByteArray) (fr k : Nat) (h : fr ≤ k) (hk : k < s.size) : piece s fr k ++ [s[k]] = piece s fr (k + 1) := by
 unfold piece
 have := cut_snoc s fr (k + 1) (by omega) (by omega)
 simp only [Nat.add_sub_cancel] at this
 exact this.symm
theorem piece_two (s : ByteArray) (fr k : Nat) (h : fr ≤ k) : piece s fr k ++ ((us s).drop k).take 2 = piece s fr (k + 2) := by
 unfold piece
 have e1 : k + 2 - fr = (k - fr) + 2 := by omega
 have e2 : (us s).drop k = ((us s).drop fr).drop (k - fr) := by rw [List.drop_drop]; congr 1; omega
 rw [e1, e2, ← List.take_add]
theorem piece_end (s : ByteArray) (fr k : Nat) (h : s.size ≤ k) : piece s fr k = (us s).drop fr := by
 unfold piece; rw [List.take_of_length_le]; rw [List.length_drop, length_us]; omega
theorem piece_self (s : ByteArray) (k : Nat) : piece s k k = [] := by unfold piece; rw [Nat.sub_self, List.take_zero]
set_option maxHeartbeats 6400000 in
theorem parts_c (s : ByteArray) (hs : s.size ≤ 4398046511104) (sep : UInt8) (w : World) :
  Calls Tryz.prog 61 #[.string s, .int .u8 sep.toNat] w fun e w' => ∃ v, e = .returned v ∧ RStrs w' v (parts (us s) sep) ∧ Below w.heap.size w w' := by
 go_enter Tryz.func61, Tryz.ntmps61
 go_wp2
 go_loopw [5, 6, 7, 8, 9] (fun v f qq aa i wr => ∃ (k fr : Nat) (q a : Bool) (L : List (List UInt8)), fr ≤ k ∧ fr ≤ s.size ∧ k ≤ s.size + 1 ∧ i = .int .i64 k ∧ f = .int .i64 fr ∧ qq = .bool q ∧ aa = .bool a ∧ L.length ≤ k ∧ Strs wr w.heap.size 9 v L ∧ parts (us s) sep = L ++ partsGo sep q a (piece s fr k) ((us s).drop k) ∧ Below w.heap.size w wr) (fun _ _ _ _ i _ => s.size + 1 - (intOf i).toNat)
 case atStart => exact ⟨0, 0, false, false, [], ρ _, Nat.zero_le _, by omega, rfl, rfl, rfl, rfl, ρ _, Strs.nil _ _ _, rfl, Below.refl _ _⟩
 case round =>
  obtain ⟨k, fr, q, a, L, hf1, hf2, hk, rfl, rfl, rfl, rfl, hl, hown, hp, hB⟩ := hrel
  have HP := κ hp; clear hp
  by_cases hlt : k < s.size
  ·have hd := κ (drop_us s k hlt)
   have ps := κ (piece_snoc s fr k hf1 hlt)
   have p0 := κ (piece_self s (k + 1))
   by_cases hA : q = true ∧ s[k].toNat = 92
   ·obtain ⟨rfl, h92⟩ := hA
    have HN := κ (show parts (us s) sep = L ++ partsGo sep true a (piece s fr (k + 2)) ((us s).drop (k + 2)) by rw [HP.out, pg_esc sep a _ s k hlt h92, piece_two s fr k hf1])
    have t92 : ((s[k].toNat : Int) == 92) = true := by simp; omega
    clear h92
    go_wp2
    go_roundw
    case rel => exact ⟨k + 2, fr, true, a, L, by omega, hf2, by omega, by go_num, rfl, rfl, rfl, by omega, hown, HN.out, hB⟩
    case measure => simp [intOf]; omega
   have hpg := κ (pg_cons sep q a (piece s fr k) s[k] ((us s).drop (k + 1)) hA)
   by_cases h34 : s[k].toNat = 34
   ·have HN := κ (show parts (us s) sep = L ++ partsGo sep (!q) a (piece s fr (k + 1)) ((us s).drop (k + 1)) by rw [HP.out, hd.out, hpg.out, if_pos h34, ps.out])
    have t92 : ((s[k].toNat : Int) == 92) = false := by simp; omega
    have t34 : ((s[k].toNat : Int) == 34) = true := by simp; omega
    clear h34 hA
    cases q
    all_goals
     go_wp2
     go_roundw
     case rel => exact ⟨k + 1, fr, _, a, L, by omega, hf2, by omega, by go_num, rfl, rfl, rfl, by omega, hown, HN.out, hB⟩
     case measure => simp [intOf]; omega
   have t34 : ((s[k].toNat : Int) == 34) = false := by simp; omega
   have N34 := κ h34
   clear h34
   cases q with
   | true =>
    have t92 : ((s[k].toNat : Int) == 92) = false := by simp; simp at hA; omega
    clear hA
    have HN := κ (show parts (us s) sep = L ++ partsGo sep true a (piece s fr (k + 1)) ((us s).drop (k + 1)) by rw [HP.out, hd.out, hpg.out, if_neg N34.out, if_pos rfl, ps.out])
    go_wp2
    go_roundw
    case rel => exact ⟨k + 1, fr, true, a, L, by omega, hf2, by omega, by go_num, rfl, rfl, rfl, by omega, hown, HN.out, hB⟩
    case measure => simp [intOf]; omega
   | false =>
    clear hA
    by_cases h60 : s[k].toNat = 60
    ·have HN := κ (show parts (us s) sep = L ++ partsGo sep false true (piece s fr (k + 1)) ((us s).drop (k + 1)) by rw [HP.out, hd.out, hpg.out, if_neg N34.out, if_neg (by decide), if_pos h60, ps.out])
     have t60 : ((s[k].toNat : Int) == 60) = true := by simp; omega
     clear h60
     go_wp2
     go_roundw
     case rel => exact ⟨k + 1, fr, false, true, L, by omega, hf2, by omega, by go_num, rfl, rfl, rfl, by omega, hown, HN.out, hB⟩
     case measure => simp [intOf]; omega
    have t60 : ((s[k].toNat : Int) == 60) = false := by simp; omega
    have N60 := κ h60
    clear h60
    by_cases h62 : s[k].toNat = 62
    ·have HN := κ (show parts (us s) sep = L ++ partsGo sep false false (piece s fr (k + 1)) ((us s).drop (k + 1)) by rw [HP.out, hd.out, hpg.out, if_neg N34.out, if_neg (by decide), if_neg N60.out, if_pos h62, ps.out])
     have t62 : ((s[k].toNat : Int) == 62) = true := by simp; omega
     clear h62
     go_wp2
     go_roundw
     case rel => exact ⟨k + 1, fr, false, false, L, by omega, hf2, by omega, by go_num, rfl, rfl, rfl, by omega, hown, HN.out, hB⟩
     case measure => simp [intOf]; omega
    have t62 : ((s[k].toNat : Int) == 62) = false := by simp; omega
    have N62 := κ h62
    clear h62
    by_cases hsp : s[k].toNat = sep.toNat ∧ a = false
    ·obtain ⟨hs1, rfl⟩ := hsp
     have HN := κ (show parts (us s) sep = (L ++ [piece s fr k]) ++ partsGo sep false false (piece s (k + 1) (k + 1)) ((us s).drop (k + 1)) by rw [HP.out, hd.out, hpg.out, if_neg N34.out, if_neg (by decide), if_neg N60.out, if_neg N62.out, if_pos ⟨hs1, rfl⟩, p0.out]; simp)
     have tsp : ((s[k].toNat : Int) == (sep.toNat : Int)) = true := by simp; omega
     clear hs1
     go_wp2_with (at_builtin; refine wpList_appS1 (piece s fr k) (us_extract s fr k) rfl rfl Tryz.underlying30 infoS rfl rfl hown hB (ρ _) ?_ ?_; (focus omega); intro v1 w1 ho1 hb1)
     go_roundw
     case rel => exact ⟨k + 1, k + 1, false, false, _, ρ _, by omega, by omega, by go_num, by go_num, rfl, rfl, by simp; omega, ho1, HN.out, hb1⟩
     case measure => simp [intOf]; omega
    have HN := κ (show parts (us s) sep = L ++ partsGo sep false a (piece s fr (k + 1)) ((us s).drop (k + 1)) by rw [HP.out, hd.out, hpg.out, if_neg N34.out, if_neg (by decide), if_neg N60.out, if_neg N62.out, if_neg hsp, ps.out])
    have hsp' : (((s[k].toNat : Int) == (sep.toNat : Int)) = true ∧ a = true) ∨ ((s[k].toNat : Int) == (sep.toNat : Int)) = false := by
     cases a
     ·right; simp; simp at hsp; omega
     ·by_cases h : s[k].toNat = sep.toNat
      ·left; exact ⟨by simp; omega, rfl⟩
      ·right; simp; omega
    clear hsp
    rcases hsp' with ⟨tsp, rfl⟩ | tsp
    all_goals
     go_wp2
     go_roundw
     case rel => exact ⟨k + 1, fr, false, _, L, by omega, hf2, by omega, by go_num, rfl, rfl, rfl, by omega, hown, HN.out, hB⟩
     case measure => simp [intOf]; omega
  ·have HN := κ (show parts (us s) sep = L ++ [(us s).drop fr] by rw [HP.out, drop_us_end s k (by omega), piece_end s fr k (by omega)]; simp [partsGo])
   go_wp2_with (at_builtin; refine wpList_appS1 ((us s).drop fr) (us_tail s fr) rfl rfl Tryz.underlying30 infoS rfl rfl hown hB (ρ _) ?_ ?_; (focus omega); intro v1 w1 ho1 hb1)
   go_ret
   exact ⟨_, rfl, (ho1.cast HN.out.symm).read, hb1⟩
end
end Go.Proofs.YtipdiddjhimdcaaGreatDoor
