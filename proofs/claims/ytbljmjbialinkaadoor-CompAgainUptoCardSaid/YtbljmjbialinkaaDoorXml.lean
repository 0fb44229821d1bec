/-
  xml.Name at 'a', attrs at none, signs, strings.Trim at blanks, xml.Check at one element of the name 'a'; pidf.text, pidf.id, pidf.tuple.
-/
import Derived.Test.YtbljmjbialinkaaDoorTup
import Derived.Lib.QuietBelow
import Derived.BigQuiet
import Derived.Laws.RangeAny
import Derived.Laws.Runes
import Derived.Shelf.Strings.SlTrimAscii
namespace Go.Proofs.YtbljmjbialinkaaDoor
set_option linter.unusedSimpArgs false
set_option linter.unusedVariables false
open Go.RowKit Go.Sort

theorem all_badX (P : UInt8 → Bool) (s : ByteArray) (k : Nat) (h : k < s.size) (hs : P s[k] = false) : (us s).all P = false := by
  rw [← Bool.not_eq_true, List.all_eq_true]
  intro hall
  have := hall s[k] (by have := get_us s k h; exact List.mem_of_getElem? this)
  rw [hs] at this; cases this
theorem all_moreX (P : UInt8 → Bool) (s : ByteArray) (k : Nat) (h : k < s.size) (hs : P s[k] = true) (hp : ((us s).take k).all P = true) : ((us s).take (k + 1)).all P = true := by
  rw [take_us s k h, List.all_append, hp]; simp [hs]
theorem all_wholeX (P : UInt8 → Bool) (s : ByteArray) (k : Nat) (h : s.size ≤ k) (hp : ((us s).take k).all P = true) : (us s).all P = true := by
  rw [← take_all s k h]; exact hp
theorem same_belowX {P : Program} {f : FuncId} {args : Array Value} {w : World} {v : Value} (h : Calls P f args w fun e w' => e = .returned v ∧ w = w') :
    Calls P f args w fun e w' => e = .returned v ∧ Below w.heap.size w w' := h.mono fun _ _ ⟨a, b⟩ => ⟨a, b ▸ Below.refl _ _⟩

theorem classA (w : World) : Calls Tryd.prog 41 #[.int .u8 97] w fun e w' => e = .returned (.int .i64 94) ∧ w = w' := by
  have h := class_c 97 w
  rw [show cls 97 = 94 by decide +kernel] at h
  exact h
theorem nameA_c (w : World) : Calls Tryd.prog 35 #[.string ⟨#[97]⟩] w fun e w' => e = .returned (.bool true) ∧ w = w' := by
  have HC := Lib.hid (fun wx => classA wx)
  go_enter Tryd.func35, Tryd.ntmps35
  go_wp2_with (go_at_call 41; refine (HC.out _).mono ?_; rintro e w' ⟨rfl, rfl⟩)
  go_loop [26] (fun i => i = .int .i64 0 ∨ i = .int .i64 1) (fun i => 1 - (intOf i).toNat)
  case atStart => exact .inl rfl
  case round =>
    rcases hrel with rfl | rfl
    · go_wp2_with (go_at_call 41; refine (HC.out _).mono ?_; rintro e w' ⟨rfl, rfl⟩)
      go_round
      case rel => exact .inr rfl
      case measure => simp [intOf]
    · go_wp2
      go_ret
      exact ⟨rfl, rfl⟩

theorem sgn_cases (c : UInt8) : ((c.toNat : Int) < 32 ∧ ((c.toNat : Int) != 9) = true ∧ ((c.toNat : Int) != 13) = true ∧ ((c.toNat : Int) != 10) = true ∧ sgn c = false) ∨
    ((c.toNat : Int) < 32 ∧ ((c.toNat : Int) != 9) = false ∧ ((c.toNat : Int) == 127) = false ∧ sgn c = true) ∨
    ((c.toNat : Int) < 32 ∧ ((c.toNat : Int) != 9) = true ∧ ((c.toNat : Int) != 13) = false ∧ ((c.toNat : Int) == 127) = false ∧ sgn c = true) ∨
    ((c.toNat : Int) < 32 ∧ ((c.toNat : Int) != 9) = true ∧ ((c.toNat : Int) != 13) = true ∧ ((c.toNat : Int) != 10) = false ∧ ((c.toNat : Int) == 127) = false ∧ sgn c = true) ∨
    (¬ (c.toNat : Int) < 32 ∧ ((c.toNat : Int) == 127) = true ∧ sgn c = false) ∨ (¬ (c.toNat : Int) < 32 ∧ ((c.toNat : Int) == 127) = false ∧ sgn c = true) :=
  all_bytes (fun c => ((c.toNat : Int) < 32 ∧ ((c.toNat : Int) != 9) = true ∧ ((c.toNat : Int) != 13) = true ∧ ((c.toNat : Int) != 10) = true ∧ sgn c = false) ∨
    ((c.toNat : Int) < 32 ∧ ((c.toNat : Int) != 9) = false ∧ ((c.toNat : Int) == 127) = false ∧ sgn c = true) ∨
    ((c.toNat : Int) < 32 ∧ ((c.toNat : Int) != 9) = true ∧ ((c.toNat : Int) != 13) = false ∧ ((c.toNat : Int) == 127) = false ∧ sgn c = true) ∨
    ((c.toNat : Int) < 32 ∧ ((c.toNat : Int) != 9) = true ∧ ((c.toNat : Int) != 13) = true ∧ ((c.toNat : Int) != 10) = false ∧ ((c.toNat : Int) == 127) = false ∧ sgn c = true) ∨
    (¬ (c.toNat : Int) < 32 ∧ ((c.toNat : Int) == 127) = true ∧ sgn c = false) ∨ (¬ (c.toNat : Int) < 32 ∧ ((c.toNat : Int) == 127) = false ∧ sgn c = true)) (by decide +kernel) c

set_option maxHeartbeats 1600000 in
theorem signs_c (s : ByteArray) (hs : s.size ≤ 4294967280) (w : World) :
    Calls Tryd.prog 37 #[.string s] w fun e w' => e = .returned (.bool ((us s).all sgn)) ∧ w = w' := by
  go_enter Tryd.func37, Tryd.ntmps37
  go_wp2
  go_loop [7] (fun i => ∃ k : Nat, k ≤ s.size ∧ i = .int .i64 k ∧ ((us s).take k).all sgn = true) (fun i => s.size - (intOf i).toNat)
  case atStart => exact ⟨0, Nat.zero_le _, rfl, rfl⟩
  case round =>
    obtain ⟨k, hk, rfl, hb⟩ := hrel
    have HB := Lib.hid hb; clear hb
    by_cases hlt : k < s.size
    · have hf := Lib.hid (fun h => all_badX sgn s k hlt h)
      have ht := Lib.hid (fun h => all_moreX sgn s k hlt h HB.out)
      have hc := sgn_cases s[k]
      rcases hc with ⟨c0, c1, c2, c3, hz⟩ | ⟨c0, c1, c4, hz⟩ | ⟨c0, c1, c2, c4, hz⟩ | ⟨c0, c1, c2, c3, c4, hz⟩ | ⟨c0, c4, hz⟩ | ⟨c0, c4, hz⟩
      all_goals
        first
          | (have HN := Lib.hid (hf.out hz); clear hz; go_wp2; go_ret; exact ⟨ret_bool HN.out.symm, rfl⟩)
          | (have HN := Lib.hid (ht.out hz)
             clear hz
             go_wp2
             go_round
             case rel => exact ⟨k + 1, by omega, by go_num, HN.out⟩
             case measure => simp [intOf]; omega)
    · have HN := Lib.hid (all_wholeX sgn s k (by omega) HB.out)
      go_wp2
      go_ret
      exact ⟨ret_bool HN.out.symm, rfl⟩

theorem attrs0_c (w : World) : Calls Tryd.prog 36 #[.slice none 0 0] w fun e w' => e = .returned (.bool true) ∧ Below w.heap.size w w' := by
  have hmm := @run_makeMap Tryd.prog
  go_enter Tryd.func36, Tryd.ntmps36
  go_wp2
  go_loopw [9] (fun i wr => i = .int .i64 0 ∧ Below w.heap.size w wr) (fun i _ => 0)
  case atStart => exact ⟨rfl, (Below.refl _ _).alloc (Nat.le_refl _) _⟩
  case round =>
    obtain ⟨rfl, hB⟩ := hrel
    go_wp2
    go_ret
    exact ⟨rfl, hB⟩

theorem trim4_c (s : ByteArray) (hs : s.size ≤ 4294967280) (w : World) :
    Calls Tryd.prog 38 #[.string s, .string ⟨#[32, 9, 13, 10]⟩] w fun e w' => e = .returned (.string (bs (Lib.trimS (us s) k4))) ∧ Below w.heap.size w w' :=
  Any.strings_Trim_laid Tryd.lays160 (by kernel_rfl) s ⟨#[32, 9, 13, 10]⟩ w (by omega) (by decide) (ascii_of_all (by decide))
theorem trimPre_c (s : ByteArray) (w : World) : Calls Tryd.prog 34 #[.string s, .string ⟨#[115, 105, 112, 58]⟩] w fun e w' => e = .returned (.string (bs (Lib.trimPrefix (us s) kSipC))) ∧ w' = w :=
  Tryd.strings_TrimPrefix s ⟨#[115, 105, 112, 58]⟩ w

end Go.Proofs.YtbljmjbialinkaaDoor
