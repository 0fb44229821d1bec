/- Contracts of Go functions, and plain laws. No condition but those told. -/
import Derived.Test.YtipdiddjhimdcaaGreatDoorR05
import Derived.Test.YtipdiddjhimdcaaGreatDoorR03
import Derived.Test.YtipdiddjhimdcaaGreatDoorR04
import Derived.Lib.AsciiSet
import Derived.Laws.OwnMore
import Derived.Deep.AppendLies
set_option linter.unusedSimpArgs false
set_option linter.unusedVariables false
set_option maxRecDepth 100000
namespace Go.Proofs.YtipdiddjhimdcaaGreatDoor
open Go.RowKit
theorem all_bad (P : UInt8 → Bool) (s : ByteArray) (k : Nat) (h : k < s.size) (hs : P s[k] = false) : (us s).all P = false := by
 rw [← Bool.not_eq_true, List.all_eq_true]
 intro hall
 have := hall s[k] (by have := get_us s k h; exact List.mem_of_getElem? this)
 rw [hs] at this; cases this
theorem all_more (P : UInt8 → Bool) (s : ByteArray) (k : Nat) (h : k < s.size) (hs : P s[k] = true) (hp : ((us s).take k).all P = true) : ((us s).take (k + 1)).all P = true := by
 rw [take_us s k h, List.all_append, hp]; simp [hs]
theorem all_whole (P : UInt8 → Bool) (s : ByteArray) (k : Nat) (h : s.size ≤ k) (hp : ((us s).take k).all P = true) : (us s).all P = true := by
 rw [← take_all s k h]; exact hp
theorem vis_no (c : UInt8) (h : ¬ ((c.toNat : Int) = 9) ∧ ((c.toNat : Int) < 32 ∨ (c.toNat : Int) = 127)) : vis c = false := by
 unfold vis
 simp only [Bool.or_eq_false_iff, Bool.and_eq_false_iff, beq_eq_false_iff_ne, decide_eq_false_iff_not, Bool.not_eq_false', beq_iff_eq]
 omega
theorem vis_yes (c : UInt8) (h : ((c.toNat : Int) = 9) ∨ (¬ (c.toNat : Int) < 32 ∧ ¬ (c.toNat : Int) = 127)) : vis c = true := by
 unfold vis
 simp only [Bool.or_eq_true, Bool.and_eq_true, beq_iff_eq, decide_eq_true_eq, Bool.not_eq_true', beq_eq_false_iff_ne]
 omega
set_option maxHeartbeats 800000 in
theorem visible_c (s : ByteArray) (hs : s.size ≤ 9223372036854775807) (w : World) :
  Calls Tryz.prog 51 #[.string s] w fun e w' => e = .returned (.bool (visS (us s))) ∧ w = w' := by
 go_enter Tryz.func51, Tryz.ntmps51
 go_wp2
 go_loop [6] (fun i => ∃ k : Nat, k ≤ s.size ∧ i = .int .i64 k ∧ ((us s).take k).all vis = true) (fun i => s.size - (intOf i).toNat)
 case atStart => exact ⟨0, Nat.zero_le _, rfl, rfl⟩
 case round =>
  obtain ⟨k, hk, rfl, hb⟩ := hrel
  have HB := κ hb; clear hb
  by_cases hlt : k < s.size
  ·have hf := κ (fun h => all_bad vis s k hlt h)
   have ht := κ (fun h => all_more vis s k hlt h HB.out)
   have n1 := κ (vis_no s[k])
   have n2 := κ (vis_yes s[k])
   by_cases c0 : ((s[k].toNat : Int) = 9)
   ·have HN := κ (ht.out (n2.out (.inl c0)))
    have C0 := κ c0
    have e0 : ((s[k].toNat : Int) != 9) = false := by simpa using c0
    clear c0
    go_wp2
    go_round
    case rel => exact ⟨k + 1, by omega, by go_num, HN.out⟩
    case measure => simp [intOf]; omega
   ·have e0 : ((s[k].toNat : Int) != 9) = true := by simpa using c0
    by_cases c1 : ((s[k].toNat : Int) < 32)
    ·have HN := κ (hf.out (n1.out ⟨c0, .inl c1⟩))
     clear c0
     go_wp2
     go_ret
     exact ⟨ret_bool HN.out.symm, rfl⟩
    ·by_cases c2 : ((s[k].toNat : Int) = 127)
     ·have HN := κ (hf.out (n1.out ⟨c0, .inr c2⟩))
      have e2 : ((s[k].toNat : Int) == 127) = true := by simpa using c2
      clear c0 c2
      go_wp2
      go_ret
      exact ⟨ret_bool HN.out.symm, rfl⟩
     ·have HN := κ (ht.out (n2.out (.inr ⟨c1, c2⟩)))
      have e2 : ((s[k].toNat : Int) == 127) = false := by simpa using c2
      clear c0 c2
      go_wp2
      go_round
      case rel => exact ⟨k + 1, by omega, by go_num, HN.out⟩
      case measure => simp [intOf]; omega
  ·have HN := κ (all_whole vis s k (by omega) HB.out)
   go_wp2
   go_ret
   exact ⟨ret_bool HN.out.symm, rfl⟩
set_option maxHeartbeats 800000 in
theorem visR_c (s : ByteArray) (hs : s.size ≤ 9223372036854775807) (w : World) :
  Calls Tryz.prog 194 #[.string s] w fun e w' => e = .returned (.bool (visS (us s))) ∧ w = w' := by
 go_enter Tryz.func194, Tryz.ntmps194
 go_wp2
 go_loop [3] (fun i => ∃ k : Nat, k ≤ s.size ∧ i = .int .i64 k ∧ ((us s).take k).all vis = true) (fun i => s.size - (intOf i).toNat)
 case atStart => exact ⟨0, Nat.zero_le _, rfl, rfl⟩
 case round =>
  obtain ⟨k, hk, rfl, hb⟩ := hrel
  have HB := κ hb; clear hb
  by_cases hlt : k < s.size
  ·have hf := κ (fun h => all_bad vis s k hlt h)
   have ht := κ (fun h => all_more vis s k hlt h HB.out)
   have n1 := κ (vis_no s[k])
   have n2 := κ (vis_yes s[k])
   by_cases c0 : ((s[k].toNat : Int) = 9)
   ·have HN := κ (ht.out (n2.out (.inl c0)))
    have c1 : ((s[k].toNat : Int) < 32) := by omega
    have e0 : ((s[k].toNat : Int) != 9) = false := by simpa using c0
    have e2 : ((s[k].toNat : Int) == 127) = false := by simp; omega
    clear c0
    go_wp2
    go_round
    case rel => exact ⟨k + 1, by omega, by go_num, HN.out⟩
    case measure => simp [intOf]; omega
   ·have e0 : ((s[k].toNat : Int) != 9) = true := by simpa using c0
    by_cases c1 : ((s[k].toNat : Int) < 32)
    ·have HN := κ (hf.out (n1.out ⟨c0, .inl c1⟩))
     clear c0
     go_wp2
     go_ret
     exact ⟨ret_bool HN.out.symm, rfl⟩
    ·by_cases c2 : ((s[k].toNat : Int) = 127)
     ·have HN := κ (hf.out (n1.out ⟨c0, .inr c2⟩))
      have e2 : ((s[k].toNat : Int) == 127) = true := by simpa using c2
      clear c0 c2
      go_wp2
      go_ret
      exact ⟨ret_bool HN.out.symm, rfl⟩
     ·have HN := κ (ht.out (n2.out (.inr ⟨c1, c2⟩)))
      have e2 : ((s[k].toNat : Int) == 127) = false := by simpa using c2
      clear c0 c2
      go_wp2
      go_round
      case rel => exact ⟨k + 1, by omega, by go_num, HN.out⟩
      case measure => simp [intOf]; omega
  ·have HN := κ (all_whole vis s k (by omega) HB.out)
   go_wp2
   go_ret
   exact ⟨ret_bool HN.out.symm, rfl⟩
theorem valS_of (s : ByteArray) (b c : Bool) (h1 : visS (us s) = b) (h2 : ((bs (trim (us s))).toList == s.toList) = c) : valS (us s) = (b && c) := by
 unfold valS
 rw [h1, ← h2, toList_bs, toList_us]
theorem value_c' (s : ByteArray) (hs : s.size ≤ 9223372036854775807) (w : World) :
  Calls Tryz.prog 145 #[.string s] w fun e w' => e = .returned (.bool (valS (us s))) ∧ w = w' := by
 have H1 := κ (fun wx => visible_c s hs wx)
 have H2 := κ (fun wx => trim_c s hs wx)
 have hv := valS_of s _ _ rfl rfl
 obtain ⟨t, ht⟩ : ∃ t, t = bs (trim (us s)) := ⟨_, rfl⟩
 rw [← ht] at H2 hv
 clear ht
 cases h1 : visS (us s) <;> cases h2 : (t.toList == s.toList)
 all_goals
  rw [h1] at H1 hv
  rw [h2] at hv
  have HV := κ hv
  clear h1 hv
  go_enter Tryz.func145, Tryz.ntmps145
  go_wp2_with (first | (go_at_call 51; refine (H1.out _).mono ?_; rintro e wx ⟨rfl, rfl⟩) | (go_at_call 50; refine (H2.out _).mono ?_; rintro e wx ⟨rfl, rfl⟩))
  go_ret
  exact ⟨ret_bool HV.out.symm, rfl⟩
theorem valueR_c' (s : ByteArray) (hs : s.size ≤ 9223372036854775807) (w : World) :
  Calls Tryz.prog 178 #[.string s] w fun e w' => e = .returned (.bool (valS (us s))) ∧ w = w' := by
 have H1 := κ (fun wx => visR_c s hs wx)
 have H2 := κ (fun wx => trimR_c s hs wx)
 have hv := valS_of s _ _ rfl rfl
 obtain ⟨t, ht⟩ : ∃ t, t = bs (trim (us s)) := ⟨_, rfl⟩
 rw [← ht] at H2 hv
 clear ht
 cases h1 : visS (us s) <;> cases h2 : (t.toList == s.toList)
 all_goals
  rw [h1] at H1 hv
  rw [h2] at hv
  have HV := κ hv
  clear h1 hv
  go_enter Tryz.func178, Tryz.ntmps178
  go_wp2_with (first | (go_at_call 194; refine (H1.out _).mono ?_; rintro e wx ⟨rfl, rfl⟩) | (go_at_call 130; refine (H2.out _).mono ?_; rintro e wx ⟨rfl, rfl⟩))
  go_ret
  exact ⟨ret_bool HV.out.symm, rfl⟩
def longL (l : List UInt8) : List UInt8 → List (List UInt8) → Option (List UInt8)
 | s :: r, x :: t => if l == [s] then some x else longL l r t
 | _, _ => none
theorem longL_one (c : UInt8) : ∀ (r : List UInt8) (t : List (List UInt8)), longL [c] r t = longGo c r t
 | [], _ => by simp [longL, longGo]
 | _ :: _, [] => by simp [longL, longGo]
 | s :: r, x :: t => by
  rw [longL, longGo, longL_one c r t]
  by_cases h : c.toNat = s.toNat
  ·rw [if_pos h, if_pos (by rw [UInt8.toNat_inj.1 h]; exact beq_self_eq_true _)]
  ·rw [if_neg h, if_neg]
   intro e
   have := eq_of_beq e
   injection this with this _
   exact h (by rw [this])
theorem longL_no (l : List UInt8) (h : l.length ≠ 1) : ∀ (r : List UInt8) (t : List (List UInt8)), longL l r t = none
 | [], _ => by simp [longL]
 | _ :: _, [] => by simp [longL]
 | s :: r, x :: t => by
  rw [longL, if_neg, longL_no l h r t]
  intro e
  rw [eq_of_beq e] at h; exact h rfl
theorem longS_L (l : List UInt8) : longS l = (longL (lowr l) shorts longs).getD l := by
 by_cases h : l.length = 1
 ·match l, h with
  | [c], _ => rw [show lowr [c] = [low c] from rfl, longL_one]; rfl
 ·rw [longS_two l h, longL_no _ (by rw [lowr_len]; exact h)]; rfl
theorem one_us (s : ByteArray) (h : s.size = 1) : ∃ c, us s = [c] := by
 have : (us s).length = 1 := (length_us s).trans h
 match us s, this with
 | [c], _ => exact ⟨c, rfl⟩
theorem shorts_case (x : UInt8) : x = 118 ∨ x = 102 ∨ x = 116 ∨ x = 105 ∨ x = 109 ∨ x = 101 ∨ x = 108 ∨ x = 99 ∨ x = 115 ∨ x = 107 ∨ x = 111 ∨ x = 117 ∨
  (¬ x = 118 ∧ ¬ x = 102 ∧ ¬ x = 116 ∧ ¬ x = 105 ∧ ¬ x = 109 ∧ ¬ x = 101 ∧ ¬ x = 108 ∧ ¬ x = 99 ∧ ¬ x = 115 ∧ ¬ x = 107 ∧ ¬ x = 111 ∧ ¬ x = 117) := by
 have := all_bytes (fun x => x = 118 ∨ x = 102 ∨ x = 116 ∨ x = 105 ∨ x = 109 ∨ x = 101 ∨ x = 108 ∨ x = 99 ∨ x = 115 ∨ x = 107 ∨ x = 111 ∨ x = 117 ∨
  (¬ x = 118 ∧ ¬ x = 102 ∧ ¬ x = 116 ∧ ¬ x = 105 ∧ ¬ x = 109 ∧ ¬ x = 101 ∧ ¬ x = 108 ∧ ¬ x = 99 ∧ ¬ x = 115 ∧ ¬ x = 107 ∧ ¬ x = 111 ∧ ¬ x = 117)) (by decide +kernel) x
 exact this
set_option maxHeartbeats 1600000 in
theorem long_c (s : ByteArray) (hs : s.size ≤ 9223372036854775807) (w : World) :
  Calls Tryz.prog 48 #[.string s] w fun e w' => e = .returned (.string (bs (longS (us s)))) ∧ Below w.heap.size w w' := by
 by_cases h1 : s.size = 1
 ·obtain ⟨c, hc⟩ := one_us s h1
  have H := κ (fun wx => lowerP_c s hs wx)
  have hl : longS (us s) = (longGo (low c) shorts longs).getD (us s) := by rw [hc]; rfl
  obtain ⟨L, hL0⟩ : ∃ L, L = bs (lowr (us s)) := ⟨_, rfl⟩
  have hL : L.toList = [low c] := by rw [hL0, toList_bs, hc]; rfl
  rw [← hL0] at H
  clear hL0 hc
  obtain ⟨x, hx⟩ : ∃ x, x = low c := ⟨_, rfl⟩
  rw [← hx] at hL hl
  clear hx
  have n1 : ((s.size : Int) != 1) = false := by simp; omega
  clear h1
  rcases shorts_case x with rfl | rfl | rfl | rfl | rfl | rfl | rfl | rfl | rfl | rfl | rfl | rfl | ⟨a1, a2, a3, a4, a5, a6, a7, a8, a9, a10, a11, a12⟩
  case inr.inr.inr.inr.inr.inr.inr.inr.inr.inr.inr.inr =>
   have e : ∀ y : UInt8, ¬ x = y → ¬ x.toNat = y.toNat := fun y h h' => h (UInt8.toNat_inj.1 h')
   have hl2 : longS (us s) = us s := by
    rw [hl]
    simp only [longGo, shorts, longs, if_neg (e _ a1), if_neg (e _ a2), if_neg (e _ a3), if_neg (e _ a4), if_neg (e _ a5), if_neg (e _ a6), if_neg (e _ a7), if_neg (e _ a8), if_neg (e _ a9), if_neg (e _ a10), if_neg (e _ a11), if_neg (e _ a12), Option.getD_none]
   have f : ∀ y : UInt8, ¬ x = y → ¬ L.toList = [y] ∧ (L.toList == [y]) = false := fun y h => by
    have : ¬ L.toList = [y] := by rw [hL]; intro h'; injection h' with h' _; exact h h'
    exact ⟨this, by simpa using this⟩
   obtain ⟨m1, e1⟩ := f 118 a1
   obtain ⟨m2, e2⟩ := f 102 a2
   obtain ⟨m3, e3⟩ := f 116 a3
   obtain ⟨m4, e4⟩ := f 105 a4
   obtain ⟨m5, e5⟩ := f 109 a5
   obtain ⟨m6, e6⟩ := f 101 a6
   obtain ⟨m7, e7⟩ := f 108 a7
   obtain ⟨m8, e8⟩ := f 99 a8
   obtain ⟨m9, e9⟩ := f 115 a9
   obtain ⟨m10, e10⟩ := f 107 a10
   obtain ⟨m11, e11⟩ := f 111 a11
   obtain ⟨m12, e12⟩ := f 117 a12
   clear hL e f a1 a2 a3 a4 a5 a6 a7 a8 a9 a10 a11 a12
   have HL := κ hl2
   clear hl hl2
   go_enter Tryz.func48, Tryz.ntmps48
   go_wp2_with (go_at_call 96; refine (H.out _).mono ?_; rintro e wx ⟨rfl, hB⟩)
   go_ret
   exact ⟨ret_bs HL.out.symm, hB⟩
  all_goals
   have HL := κ hl
   clear hl
   go_enter Tryz.func48, Tryz.ntmps48
   go_wp2_with (go_at_call 96; refine (H.out _).mono ?_; rintro e wx ⟨rfl, hB⟩)
   go_ret
   exact ⟨ret_bs (by rw [HL.out]; rfl), hB⟩
 ·have HL := κ (longS_two (us s) (by rw [length_us]; exact h1))
  have n1 : ((s.size : Int) != 1) = true := by simp; omega
  clear h1
  go_enter Tryz.func48, Tryz.ntmps48
  go_wp2
  go_ret
  exact ⟨ret_bs HL.out.symm, Below.refl _ _⟩
theorem longL_drop (l : List UInt8) (k : Nat) (hk : k < 12) (hn : ¬ l = [shorts.getD k 0]) : longL l (shorts.drop k) (longs.drop k) = longL l (shorts.drop (k + 1)) (longs.drop (k + 1)) := by
 have h1 : shorts.drop k = shorts.getD k 0 :: shorts.drop (k + 1) := by
  have : k < shorts.length := hk
  rw [List.drop_eq_getElem_cons this]; simp [List.getD_eq_getElem?_getD, List.getElem?_eq_getElem this]
 have h2 : longs.drop k = longs.getD k [] :: longs.drop (k + 1) := by
  have : k < longs.length := hk
  rw [List.drop_eq_getElem_cons this]; simp [List.getD_eq_getElem?_getD, List.getElem?_eq_getElem this]
 rw [h1, h2, longL, if_neg (by simpa using hn)]
theorem longL_hit (l : List UInt8) (k : Nat) (hk : k < 12) (hn : l = [shorts.getD k 0]) : longL l (shorts.drop k) (longs.drop k) = some (longs.getD k []) := by
 have h1 : shorts.drop k = shorts.getD k 0 :: shorts.drop (k + 1) := by
  have : k < shorts.length := hk
  rw [List.drop_eq_getElem_cons this]; simp [List.getD_eq_getElem?_getD, List.getElem?_eq_getElem this]
 have h2 : longs.drop k = longs.getD k [] :: longs.drop (k + 1) := by
  have : k < longs.length := hk
  rw [List.drop_eq_getElem_cons this]; simp [List.getD_eq_getElem?_getD, List.getElem?_eq_getElem this]
 rw [h1, h2, longL, if_pos (by rw [hn]; exact beq_self_eq_true _)]
theorem nmLo : (Tryz.f123.name == "runtime.NumGoroutine") = false := by kernel_rfl
theorem bdLo : Tryz.f123.body.isNone = false := by kernel_rfl
set_option maxRecDepth 8000 in
set_option maxHeartbeats 3200000 in
theorem longR_c (s : ByteArray) (hs : s.size ≤ 140737488355328) (w : World) :
  Calls Tryz.prog 176 #[.string s] w fun e w' => e = .returned (.string (bs (longS (us s)))) ∧ Below w.heap.size w w' := by
 have H := κ (fun wx => lowerR_c s hs wx)
 have hl := longS_L (us s)
 obtain ⟨L, hL0⟩ : ∃ L, L = bs (lowr (us s)) := ⟨_, rfl⟩
 have hL : lowr (us s) = L.toList := by rw [hL0, toList_bs]
 rw [← hL0] at H
 rw [hL] at hl
 clear hL0 hL
 have HLS := κ hl
 clear hl
 go_enter Tryz.func176, Tryz.ntmps176
 go_wp2
 have rc := κ (fun (k : Nat) (hk : k < 12) (wr : World) (hB : Below (w.heap.size + 1) (w.alloc (.cells #[.string ⟨#[86, 105, 97]⟩, .string ⟨#[70, 114, 111, 109]⟩, .string ⟨#[84, 111]⟩, .string ⟨#[67, 97, 108, 108, 45, 73, 68]⟩, .string ⟨#[67, 111, 110, 116, 97, 99, 116]⟩, .string ⟨#[67, 111, 110, 116, 101, 110, 116, 45, 69, 110, 99, 111, 100, 105, 110, 103]⟩, .string ⟨#[67, 111, 110, 116, 101, 110, 116, 45, 76, 101, 110, 103, 116, 104]⟩, .string ⟨#[67, 111, 110, 116, 101, 110, 116, 45, 84, 121, 112, 101]⟩, .string ⟨#[83, 117, 98, 106, 101, 99, 116]⟩, .string ⟨#[83, 117, 112, 112, 111, 114, 116, 101, 100]⟩, .string ⟨#[69, 118, 101, 110, 116]⟩, .string ⟨#[65, 108, 108, 111, 119, 45, 69, 118, 101, 110, 116, 115]⟩] 9)) wr) =>
  (boxedCell (boxedAt hB) k).trans (show (#[.string ⟨#[86, 105, 97]⟩, .string ⟨#[70, 114, 111, 109]⟩, .string ⟨#[84, 111]⟩, .string ⟨#[67, 97, 108, 108, 45, 73, 68]⟩, .string ⟨#[67, 111, 110, 116, 97, 99, 116]⟩, .string ⟨#[67, 111, 110, 116, 101, 110, 116, 45, 69, 110, 99, 111, 100, 105, 110, 103]⟩, .string ⟨#[67, 111, 110, 116, 101, 110, 116, 45, 76, 101, 110, 103, 116, 104]⟩, .string ⟨#[67, 111, 110, 116, 101, 110, 116, 45, 84, 121, 112, 101]⟩, .string ⟨#[83, 117, 98, 106, 101, 99, 116]⟩, .string ⟨#[83, 117, 112, 112, 111, 114, 116, 101, 100]⟩, .string ⟨#[69, 118, 101, 110, 116]⟩, .string ⟨#[65, 108, 108, 111, 119, 45, 69, 118, 101, 110, 116, 115]⟩] : Array Value)[k]? = some (.string (bs (longs.getD k []))) by
   have := (by decide +kernel : ∀ j : Fin 12, longs.getD j.val [] = longs.getD j.val []) ⟨k, hk⟩
   match k, hk with
   | 0, _ | 1, _ | 2, _ | 3, _ | 4, _ | 5, _ | 6, _ | 7, _ | 8, _ | 9, _ | 10, _ | 11, _ => rfl))
 have ec := κ (fun (k : Nat) (hk : k < 12) => (show ((⟨#[118, 102, 116, 105, 109, 101, 108, 99, 115, 107, 111, 117]⟩ : ByteArray).extract k (k + 1)).toList = [shorts.getD k 0] by
   match k, hk with
   | 0, _ | 1, _ | 2, _ | 3, _ | 4, _ | 5, _ | 6, _ | 7, _ | 8, _ | 9, _ | 10, _ | 11, _ => rw [toList_us]; rfl))
 obtain ⟨w0, hw0⟩ : ∃ w0 : World, w0 = w.alloc (.cells #[.string ⟨#[86, 105, 97]⟩, .string ⟨#[70, 114, 111, 109]⟩, .string ⟨#[84, 111]⟩, .string ⟨#[67, 97, 108, 108, 45, 73, 68]⟩, .string ⟨#[67, 111, 110, 116, 97, 99, 116]⟩, .string ⟨#[67, 111, 110, 116, 101, 110, 116, 45, 69, 110, 99, 111, 100, 105, 110, 103]⟩, .string ⟨#[67, 111, 110, 116, 101, 110, 116, 45, 76, 101, 110, 103, 116, 104]⟩, .string ⟨#[67, 111, 110, 116, 101, 110, 116, 45, 84, 121, 112, 101]⟩, .string ⟨#[83, 117, 98, 106, 101, 99, 116]⟩, .string ⟨#[83, 117, 112, 112, 111, 114, 116, 101, 100]⟩, .string ⟨#[69, 118, 101, 110, 116]⟩, .string ⟨#[65, 108, 108, 111, 119, 45, 69, 118, 101, 110, 116, 115]⟩] 9) := ⟨_, rfl⟩
 have z0 : w0.heap.size = w.heap.size + 1 := by rw [hw0]; exact World.size_alloc _ _
 have hBw : Below w.heap.size w w0 := by rw [hw0]; exact (Below.refl _ _).alloc (ρ _) _
 rw [← hw0] at rc
 simp only [← hw0]
 clear hw0
 obtain ⟨S, hS⟩ : ∃ S : ByteArray, S = ⟨#[118, 102, 116, 105, 109, 101, 108, 99, 115, 107, 111, 117]⟩ := ⟨_, rfl⟩
 have zS : S.size = 12 := by rw [hS]; rfl
 rw [← hS] at ec
 simp only [← hS]
 clear hS
 go_loopw [5] (fun i wr => ∃ k : Nat, k ≤ 12 ∧ i = .int .i64 k ∧ Below (w.heap.size + 1) w0 wr ∧ longL L.toList shorts longs = longL L.toList (shorts.drop k) (longs.drop k)) (fun i _ => 12 - (intOf i).toNat)
 case atStart => exact ⟨0, Nat.zero_le _, rfl, Below.refl _ _, rfl⟩
 case round =>
  obtain ⟨k, hk, rfl, hB, hp⟩ := hrel
  have HP := κ hp; clear hp
  have hz : w.heap.size + 1 ≤ wr.heap.size := by have := hB.size; omega
  have hBr : Below w.heap.size w wr := hBw.trans (hB.mono (by omega))
  have zSi : (S.size : Int) = 12 := by omega
  by_cases hlt : k < 12
  ·have e0 := ec.out k hlt
   have w1 : IntKind.i64.wrap ((k : Int) + 1) = (k : Int) + 1 := IntWalk.i64_in _ (by omega)
   have e1 : ((k : Int) + 1).toNat = k + 1 := by omega
   have q1 : (0 : Int) ≤ (k : Int) := by omega
   have q2 : (k : Int) ≤ (S.size : Int) := by omega
   have q3 : (k : Int) + 1 ≤ (S.size : Int) := by omega
   have q4 : (k : Int) < 12 := by omega
   have q5 : (0 : Int) ≤ (k : Int) + 1 := by omega
   have q6 : (k : Int) + 1 ≤ 12 := by omega
   have q7 : (k : Int) ≤ (k : Int) + 1 := by omega
   have HX := κ (rc.out k hlt)
   cases hq : (L.toList == (S.extract k (k + 1)).toList)
   ·have HN := κ (show longL L.toList shorts longs = longL L.toList (shorts.drop (k + 1)) (longs.drop (k + 1)) by
     rw [HP.out]; refine longL_drop _ k hlt ?_
     rw [e0] at hq; simpa using hq)
    clear e0
    have nq : ¬ L.toList = (S.extract k (k + 1)).toList := by simpa using hq
    go_wp2
    go_region_law (refine step_callB1 (v0 := .string s) (v := .string L) rfl rfl Tryz.func123 nmLo bdLo ?_ ?_ ?_; (focus rfl); (focus (exact H.out _)); intro w2 hC)
    all_goals
     have hB2 := hB.drew.trans (hC.mono (show w.heap.size + 1 ≤ wr.drew.heap.size from hz))
     clear w1 e1
     go_wp2
     go_roundw
     case rel => exact ⟨k + 1, by omega, by go_num, hB2, HN.out⟩
     case measure => simp [intOf]; omega
   ·have HN := κ (show longL L.toList shorts longs = some (longs.getD k []) by
     rw [HP.out]; refine longL_hit _ k hlt ?_
     rw [e0] at hq; simpa using hq)
    clear e0
    have hq' : L.toList = (S.extract k (k + 1)).toList := by simpa using hq
    have HQ := κ hq'
    clear hq'
    go_wp2
    go_region_law (refine step_callB1 (v0 := .string s) (v := .string L) rfl rfl Tryz.func123 nmLo bdLo ?_ ?_ ?_; (focus rfl); (focus (exact H.out _)); intro w2 hC)
    all_goals
     have hB2 := hB.drew.trans (hC.mono (show w.heap.size + 1 ≤ wr.drew.heap.size from hz))
     have x0 := HX.out w2 hB2
     go_wp2
     go_ret
     exact ⟨ret_str (by rw [HLS.out, HN.out]; rfl), hBw.trans (hB2.mono (by omega))⟩
  ·have HN := κ (show longL L.toList shorts longs = none by rw [HP.out, show k = 12 by omega]; rfl)
   go_wp2
   go_ret
   exact ⟨ret_bs (by rw [HLS.out, HN.out]; rfl), hBr⟩
theorem length_c (s : ByteArray) (hs : s.size ≤ 9223372036854775807) (w : World) :
  Calls Tryz.prog 52 #[.string s] w fun e w' => e = .returned (.bool (isLen (longS (us s)))) ∧ Below w.heap.size w w' := by
 have H := κ (fun wx => long_c s hs wx)
 obtain ⟨L, hL⟩ : ∃ L, L = longS (us s) := ⟨_, rfl⟩
 have hLs : L.length ≤ s.size ∨ L.length ≤ 16 := by
  rw [hL]
  by_cases h1 : s.size = 1
  ·obtain ⟨c, hc⟩ := one_us s h1
   have e : longS [c] = (longGo (low c) shorts longs).getD [c] := rfl
   rw [hc, e]
   cases hg : longGo (low c) shorts longs with
   | none => left; simp; omega
   | some x =>
    right
    have : ∀ (r : List UInt8) (t : List (List UInt8)), (∀ y ∈ t, y.length ≤ 16) → ∀ x, longGo (low c) r t = some x → x.length ≤ 16 := by
     intro r
     induction r with
     | nil => intro t _ x h; simp [longGo] at h
     | cons a r ih =>
      intro t ht x h
      cases t with
      | nil => simp [longGo] at h
      | cons y t =>
       rw [longGo] at h
       by_cases hc : (low c).toNat = a.toNat
       ·rw [if_pos hc] at h; injection h with h; rw [← h]; exact ht y (List.mem_cons_self ..)
       ·rw [if_neg hc] at h; exact ih t (fun z hz => ht z (List.mem_cons_of_mem _ hz)) x h
    exact this shorts longs (by decide) x hg
  ·left; rw [longS_two _ (by rw [length_us]; exact h1), length_us]; exact ρ _
 have H2 := κ (fun wx => same_c (bs L) ⟨#[67, 111, 110, 116, 101, 110, 116, 45, 76, 101, 110, 103, 116, 104]⟩ (by rw [size_bs]; omega) (by decide) wx)
 rw [us_bs] at H2
 rw [← hL] at H
 have HI := κ (show isLen (longS (us s)) = same L (us ⟨#[67, 111, 110, 116, 101, 110, 116, 45, 76, 101, 110, 103, 116, 104]⟩) by rw [hL]; rfl)
 obtain ⟨b, hb⟩ : ∃ b, b = same L (us ⟨#[67, 111, 110, 116, 101, 110, 116, 45, 76, 101, 110, 103, 116, 104]⟩) := ⟨_, rfl⟩
 rw [← hb] at H2 HI
 obtain ⟨M, hM⟩ : ∃ M, M = bs L := ⟨_, rfl⟩
 rw [← hM] at H H2
 clear hb hM hL hLs
 go_enter Tryz.func52, Tryz.ntmps52
 go_wp2_with (first | (go_at_call 48; refine (H.out _).mono ?_; rintro e wx ⟨rfl, hB⟩) | (go_at_call 93; refine (H2.out _).mono ?_; rintro e wy ⟨rfl, hD⟩))
 go_ret
 exact ⟨ret_bool HI.out.symm, hB.trans hD.below⟩
theorem lengthR_c (s : ByteArray) (hs : s.size ≤ 140737488355328) (w : World) :
  Calls Tryz.prog 177 #[.string s] w fun e w' => e = .returned (.bool (isLen (us s))) ∧ Below w.heap.size w w' := by
 have H2 := κ (fun wx => sameR_c s ⟨#[67, 111, 110, 116, 101, 110, 116, 45, 76, 101, 110, 103, 116, 104]⟩ hs (by decide) wx)
 have HI := κ (show isLen (us s) = same (us s) (us ⟨#[67, 111, 110, 116, 101, 110, 116, 45, 76, 101, 110, 103, 116, 104]⟩) from rfl)
 obtain ⟨b, hb⟩ : ∃ b, b = same (us s) (us ⟨#[67, 111, 110, 116, 101, 110, 116, 45, 76, 101, 110, 103, 116, 104]⟩) := ⟨_, rfl⟩
 rw [← hb] at H2 HI
 clear hb
 go_enter Tryz.func177, Tryz.ntmps177
 go_wp2_with (go_at_call 192; refine (H2.out _).mono ?_; rintro e wx ⟨rfl, hB⟩)
 go_ret
 exact ⟨ret_bool HI.out.symm, hB⟩
theorem targS_of (s : ByteArray) (h : 0 < s.size) : targS (us s) = (visS (us s) && !((us s).any blank)) := by
 unfold targS
 have e1 : (us s == []) = false := by
  rw [beq_eq_false_iff_ne]
  intro e
  have : s.size = 0 := by rw [← length_us, e]; rfl
  omega
 rw [e1]
 have : ∀ l : List UInt8, (l.all fun c => !blank c) = !l.any blank := by
  intro l; induction l with
  | nil => rfl
  | cons c r ih => simp [List.all_cons, List.any_cons, ih]
 rw [this]; simp
theorem target_c (s : ByteArray) (hs : s.size < 4294967281) (w : World) :
  Calls Tryz.prog 148 #[.string s] w fun e w' => e = .returned (.bool (targS (us s))) ∧ Below w.heap.size w w' := by
 by_cases hz : s.size = 0
 ·obtain rfl := eq_empty hz
  go_enter Tryz.func148, Tryz.ntmps148
  go_wp2
  go_ret
  exact ⟨ret_bool (by rfl), Below.refl _ _⟩
 ·have h1 := isEmpty_f hz
  have h2 := ne_empty hz
  have hT := targS_of s (by omega)
  have H1 := κ (fun wx => visible_c s (by omega) wx)
  have H2 := κ (fun wx => containsAny_c s hs wx)
  have hR : Below w.heap.size w w := Below.refl _ _
  cases hv : visS (us s) <;> cases hb : (us s).any blank
  all_goals
   rw [hv] at H1 hT
   rw [hb] at H2 hT
   have HT := κ hT
   clear hv hb hT
   go_enter Tryz.func148, Tryz.ntmps148
   go_wp2_with (first | (go_at_call 51; refine (H1.out _).mono ?_; rintro e wx ⟨rfl, rfl⟩) | (go_at_call 57; refine (H2.out _).mono ?_; rintro e wx ⟨rfl, hR⟩))
   go_ret
   exact ⟨ret_bool HT.out.symm, hR⟩
theorem Blk.f6 {w : World} {g : Nat} {t : TypeId} {a b c d e f : Value} (h : Blk w g t #[a, b, c, d, e, f]) :
  w.cell? ⟨g, 0, none⟩ = some a ∧ w.cell? ⟨g, 1, none⟩ = some b ∧ w.cell? ⟨g, 2, none⟩ = some c ∧ w.cell? ⟨g, 3, none⟩ = some d ∧ w.cell? ⟨g, 4, none⟩ = some e ∧ w.cell? ⟨g, 5, none⟩ = some f :=
 ⟨boxedCell h 0, boxedCell h 1, boxedCell h 2, boxedCell h 3, boxedCell h 4, boxedCell h 5⟩
theorem us_ne (s : ByteArray) (h : s.size ≠ 0) : ¬ us s = [] := by
 intro e; exact h (by rw [← length_us, e]; rfl)
theorem us_beq (s : ByteArray) : (us s == []) = decide (s.size = 0) := by
 by_cases h : s.size = 0
 ·rw [eq_empty h]; rfl
 ·rw [decide_eq_false h, beq_eq_false_iff_ne]; exact us_ne s h
theorem first_req (M T R B : ByteArray) (x : Int) (H : List Hdr) (h : M.size ≠ 0) : firstS ⟨us M, us T, x, us R, H, us B⟩ = (token (us M) && targS (us T) && (x == 0) && decide (R.size = 0)) := by
 unfold firstS; rw [if_neg (us_ne M h), us_beq]
theorem first_res (T R B : ByteArray) (x : Int) (H : List Hdr) : firstS ⟨us ByteArray.empty, us T, x, us R, H, us B⟩ = (decide (100 ≤ x) && decide (x ≤ 699) && valS (us R) && decide (T.size = 0)) := by
 unfold firstS; rw [if_pos (show us ByteArray.empty = [] from rfl), us_beq]
set_option maxHeartbeats 3200000 in
theorem firstF_c (M T R B : ByteArray) (x : Int) (u : Value) (H : List Hdr) (hM : M.size ≤ 4294967280) (hT : T.size ≤ 4294967280) (hR : R.size ≤ 4294967280) (w : World) :
  Calls Tryz.prog 94 #[.agg #[.string M, .string T, .int .i64 x, .string R, u, .string B]] w fun e w' => e = .returned (.bool (firstS ⟨us M, us T, x, us R, H, us B⟩)) ∧ Below w.heap.size w w' := by
 have hB0 : Below w.heap.size w (w.alloc (.cells #[.string M, .string T, .int .i64 x, .string R, u, .string B] 45)) := (Below.refl _ _).alloc (ρ _) _
 by_cases hz : M.size = 0
 ·obtain rfl := eq_empty hz
  have H1 := κ (fun wx => value_c' R (by omega) wx)
  have hV := first_res T R B x H
  by_cases x0 : 100 ≤ x <;> by_cases x1 : x ≤ 699 <;> by_cases tz : T.size = 0
  all_goals try (exfalso; omega)
  all_goals
   cases hv : valS (us R)
   all_goals
    rw [hv] at H1 hV
    first
     | rw [decide_eq_true x0] at hV
     | rw [decide_eq_false x0] at hV
    first
     | rw [decide_eq_true x1] at hV
     | rw [decide_eq_false x1] at hV
    first
     | rw [decide_eq_true tz] at hV
     | rw [decide_eq_false tz] at hV
    have HV := κ hV
    clear hv hV
    first
     | (have q1 := isEmpty_f tz; have q2 := ne_empty tz)
     | (obtain rfl := eq_empty tz)
    go_enter Tryz.func94, Tryz.ntmps94
    go_wp2_with (go_at_call 145; refine (H1.out _).mono ?_; rintro e wx ⟨rfl, rfl⟩)
    go_ret
    exact ⟨ret_bool (by rw [HV.out]; rfl), hB0⟩
 ·have H1 := κ (fun wx => token_c M (by omega) wx)
  have H2 := κ (fun wx => target_c T (by omega) wx)
  have hV := first_req M T R B x H hz
  have m1 := isEmpty_f hz
  have m2 := ne_empty hz
  by_cases x0 : x = 0 <;> by_cases rz : R.size = 0
  all_goals
   cases hv : token (us M) <;> cases ht : targS (us T)
   all_goals
    rw [hv] at H1 hV
    rw [ht] at H2 hV
    first
     | (have x2 : (x == 0) = true := by simpa using x0)
     | (have x2 : (x == 0) = false := by simpa using x0)
    rw [x2] at hV
    first
     | rw [decide_eq_true rz] at hV
     | rw [decide_eq_false rz] at hV
    have HV := κ hV
    clear hv ht hV x0
    first
     | (have q1 := isEmpty_f rz; have q2 := ne_empty rz)
     | (obtain rfl := eq_empty rz)
    go_enter Tryz.func94, Tryz.ntmps94
    go_wp2_with (first | (go_at_call 31; refine (H1.out _).mono ?_; rintro e wx ⟨rfl, rfl⟩) | (go_at_call 148; refine (H2.out _).mono ?_; rintro e wx ⟨rfl, hC⟩; obtain ⟨hbk, hB1, hz1⟩ := newCall hC; obtain ⟨c0, c1, c2, c3, c4, c5⟩ := hbk.f6; clear hbk))
    go_ret
    exact ⟨ret_bool (by rw [HV.out]; rfl), by first | exact hB1 | exact hB0⟩
theorem first_bad (M T R B : ByteArray) (x : Int) (H : List Hdr) (h : M.size ≠ 0) (hb : (us T).any blank = true) : firstS ⟨us M, us T, x, us R, H, us B⟩ = false := by
 rw [first_req M T R B x H h]
 unfold targS
 have : ∀ l : List UInt8, (l.all fun c => !blank c) = !l.any blank := by
  intro l; induction l with
  | nil => rfl
  | cons c r ih => simp [List.all_cons, List.any_cons, ih]
 rw [this, hb]; simp
theorem first_good (M T R B : ByteArray) (x : Int) (H : List Hdr) (h : M.size ≠ 0) (hb : (us T).any blank = false) :
  firstS ⟨us M, us T, x, us R, H, us B⟩ = (token (us M) && !(decide (T.size = 0)) && visS (us T) && (x == 0) && decide (R.size = 0)) := by
 rw [first_req M T R B x H h]
 unfold targS
 have : ∀ l : List UInt8, (l.all fun c => !blank c) = !l.any blank := by
  intro l; induction l with
  | nil => rfl
  | cons c r ih => simp [List.all_cons, List.any_cons, ih]
 rw [this, hb, us_beq]
 cases token (us M) <;> cases decide (T.size = 0) <;> cases visS (us T) <;> rfl
set_option maxHeartbeats 6400000 in
theorem firstR_c (M T R B : ByteArray) (x : Int) (u : Value) (H : List Hdr) (hM : M.size ≤ 4294967280) (hT : T.size ≤ 4294967280) (hR : R.size ≤ 4294967280) (w : World) :
  Calls Tryz.prog 175 #[.agg #[.string M, .string T, .int .i64 x, .string R, u, .string B]] w fun e w' => e = .returned (.bool (firstS ⟨us M, us T, x, us R, H, us B⟩)) ∧ Below w.heap.size w w' := by
 have hB0 : Below w.heap.size w (w.alloc (.cells #[.string M, .string T, .int .i64 x, .string R, u, .string B] 45)) := (Below.refl _ _).alloc (ρ _) _
 by_cases hz : M.size = 0
 ·obtain rfl := eq_empty hz
  have H1 := κ (fun wx => valueR_c' R (by omega) wx)
  have hV := first_res T R B x H
  by_cases x0 : 100 ≤ x <;> by_cases x1 : x ≤ 699 <;> by_cases tz : T.size = 0
  all_goals try (exfalso; omega)
  all_goals
   cases hv : valS (us R)
   all_goals
    rw [hv] at H1 hV
    first
     | rw [decide_eq_true x0] at hV
     | rw [decide_eq_false x0] at hV
    first
     | rw [decide_eq_true x1] at hV
     | rw [decide_eq_false x1] at hV
    first
     | rw [decide_eq_true tz] at hV
     | rw [decide_eq_false tz] at hV
    have HV := κ hV
    clear hv hV
    first
     | (have q1 := isEmpty_f tz; have q2 := ne_empty tz)
     | (obtain rfl := eq_empty tz)
    go_enter Tryz.func175, Tryz.ntmps175
    go_wp2_with (go_at_call 178; refine (H1.out _).mono ?_; rintro e wx ⟨rfl, rfl⟩)
    go_ret
    exact ⟨ret_bool (by rw [HV.out]; rfl), hB0⟩
 ·have H1 := κ (fun wx => tokenR_c M (by omega) wx)
  have H2 := κ (fun wx => visR_c T (by omega) wx)
  have hVb := κ (fun hb => first_bad M T R B x H hz hb)
  have hVg := κ (fun hb => first_good M T R B x H hz hb)
  have m1 := isEmpty_f hz
  have m2 := ne_empty hz
  have hbk : Blk (w.alloc (.cells #[.string M, .string T, .int .i64 x, .string R, u, .string B] 45)) w.heap.size 45 #[.string M, .string T, .int .i64 x, .string R, u, .string B] := Blk.new _ _ _
  obtain ⟨w0, hw0⟩ : ∃ w0, w0 = w.alloc (.cells #[.string M, .string T, .int .i64 x, .string R, u, .string B] 45) := ⟨_, rfl⟩
  go_enter Tryz.func175, Tryz.ntmps175
  go_wp2
  simp only [← hw0]
  rw [← hw0] at hbk hB0
  clear hw0
  obtain ⟨c0, c1, c2, c3, _, _⟩ := hbk.f6
  clear hbk
  go_loop [3] (fun i => ∃ k : Nat, k ≤ T.size ∧ i = .int .i64 k ∧ ((us T).take k).any blank = false) (fun i => T.size - (intOf i).toNat)
  case atStart => exact ⟨0, Nat.zero_le _, rfl, rfl⟩
  case round =>
   obtain ⟨k, hk, rfl, hb⟩ := hrel
   have HB := κ hb; clear hb
   by_cases hlt : k < T.size
   ·cases hbl : blank T[k]
    ·have HN := κ (any_more T k hlt HB.out hbl)
     rw [blank_of] at hbl
     go_wp2_with (go_at_call 162; refine (classR_c _ _).mono ?_; rintro e w' ⟨rfl, rfl⟩)
     go_round
     case rel => exact ⟨k + 1, by omega, by go_num, HN.out⟩
     case measure => simp [intOf]; omega
    ·have HN := κ (hVb.out (any_hit T k hlt hbl))
     rw [blank_of] at hbl
     go_wp2_with (go_at_call 162; refine (classR_c _ _).mono ?_; rintro e w' ⟨rfl, rfl⟩)
     go_ret
     exact ⟨ret_bool HN.out.symm, hB0⟩
   ·have hV := hVg.out (by rw [← take_all T k (by omega)]; exact HB.out)
    clear HB
    by_cases x0 : x = 0 <;> by_cases rz : R.size = 0 <;> by_cases tz : T.size = 0
    all_goals
     cases hv : token (us M) <;> cases ht : visS (us T)
     all_goals
      rw [hv] at H1 hV
      rw [ht] at H2 hV
      first
       | (have x2 : (x == 0) = true := by simpa using x0)
       | (have x2 : (x == 0) = false := by simpa using x0)
      rw [x2] at hV
      first
       | rw [decide_eq_true rz] at hV
       | rw [decide_eq_false rz] at hV
      first
       | rw [decide_eq_true tz] at hV
       | rw [decide_eq_false tz] at hV
      have HV := κ hV
      clear hv ht hV x0
      first
       | (have q1 := isEmpty_f rz; have q2 := ne_empty rz)
       | (have q1 := (isEmpty_us R).trans (decide_eq_true rz); have q2 := eq_empty rz)
      first
       | (have q3 := isEmpty_f tz; have q4 := ne_empty tz)
       | (have q3 := (isEmpty_us T).trans (decide_eq_true tz); have q4 := eq_empty tz)
      go_wp2_with (first | (go_at_call 65; refine (H1.out _).mono ?_; rintro e wx ⟨rfl, rfl⟩) | (go_at_call 194; refine (H2.out _).mono ?_; rintro e wx ⟨rfl, rfl⟩))
      go_ret
      exact ⟨ret_bool (by rw [HV.out]; rfl), hB0⟩
theorem Strs.len {w : World} {base : Nat} {e : TypeId} {v : Value} {L : List (List UInt8)} (h : Strs w base e v L) : ∃ ao cap, v = .slice ao L.length cap := by
 rcases h.2 with ⟨h1, h2⟩ | ⟨g, cap, _, h1, _⟩
 ·exact ⟨none, 0, by rw [h1, h2]⟩
 ·exact ⟨_, cap, h1⟩
def mgv (m : Mg) (u : Value) : Value := .agg #[sv m.method, sv m.target, .int .i64 m.status, sv m.reason, u, sv m.body]
theorem Blk.g6 {w : World} {g : Nat} {t : TypeId} {a b c d e f : Value} (h : Blk w g t #[a, b, c, d, e, f]) :
  w.cell? ⟨g, 0, none⟩ = some a ∧ w.cell? ⟨g, 1, none⟩ = some b ∧ w.cell? ⟨g, 2, none⟩ = some c ∧ w.cell? ⟨g, 3, none⟩ = some d ∧ w.cell? ⟨g, 4, none⟩ = some e ∧ w.cell? ⟨g, 5, none⟩ = some f ∧
  w.frozen? ⟨g, 0, none⟩ = false ∧ w.frozen? ⟨g, 1, none⟩ = false ∧ w.frozen? ⟨g, 2, none⟩ = false ∧ w.frozen? ⟨g, 3, none⟩ = false ∧ w.frozen? ⟨g, 4, none⟩ = false ∧ w.frozen? ⟨g, 5, none⟩ = false ∧ g < w.heap.size :=
 ⟨boxedCell h 0, boxedCell h 1, boxedCell h 2, boxedCell h 3, boxedCell h 4, boxedCell h 5, boxedFree h 0, boxedFree h 1, boxedFree h 2, boxedFree h 3, boxedFree h 4, boxedFree h 5, h.lt⟩
theorem Blk.put6 {w : World} {g : Nat} {t : TypeId} {a b c d e f a' b' c' d' e' f' : Value} (h : Blk w g t #[a, b, c, d, e, f]) :
  Blk ((((((w.setCell ⟨g, 0, none⟩ a').setCell ⟨g, 1, none⟩ b').setCell ⟨g, 2, none⟩ c').setCell ⟨g, 3, none⟩ d').setCell ⟨g, 4, none⟩ e').setCell ⟨g, 5, none⟩ f') g t #[a', b', c', d', e', f'] :=
 (((((h.set_ 0 a').set_ 1 b').set_ 2 c').set_ 3 d').set_ 4 e').set_ 5 f'
theorem below_put6 {w0 w : World} {B g : Nat} {a' b' c' d' e' f' : Value} (h : Below B w0 w) (hg : B ≤ g) :
  Below B w0 ((((((w.setCell ⟨g, 0, none⟩ a').setCell ⟨g, 1, none⟩ b').setCell ⟨g, 2, none⟩ c').setCell ⟨g, 3, none⟩ d').setCell ⟨g, 4, none⟩ e').setCell ⟨g, 5, none⟩ f') :=
 (((((h.setCell hg _).setCell hg _).setCell hg _).setCell hg _).setCell hg _).setCell hg _
theorem any_world {R : World → Prop} {W : World} (F : World → Prop) (hF : F W) (h : ∀ w', F w' → R w') : R W := h W hF
theorem Blk.drew {w : World} {g : Nat} {t : TypeId} {cs : Array Value} (h : Blk w g t cs) : Blk w.drew g t cs := h
end Go.Proofs.YtipdiddjhimdcaaGreatDoor
