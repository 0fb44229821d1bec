/-
  What escapes stand for, of the program and of the reference; the reference's Escape.
-/
import Derived.Test.YtbkeommlolcaiaaScanG
namespace Go.Proofs.Ytbkeommlolcaiaa
open Go.RowKit

@[simp] theorem get_bs (l : List UInt8) (i : Nat) (h : i < (bs l).size) : (bs l)[i] = l[i]'(by rw [size_bs] at h; exact h) := by
  have h1 := get_us (bs l) i h
  rw [us_bs] at h1
  have h2 : i < l.length := by rw [size_bs] at h; exact h
  rw [List.getElem?_eq_getElem h2] at h1
  exact (Option.some.inj h1).symm
def rworth (c : UInt8) : Int := if testc 4 c then worth c else -1
def wmatch (k : Nat) (c : UInt8) : Bool := hexd k == c || low (hexd k) == c
theorem rworth_at (c : UInt8) : ∀ k : Fin 16, wmatch k.val c = true → rworth c = k.val :=
  all_bytes (fun c => ∀ k : Fin 16, wmatch k.val c = true → rworth c = k.val) (by decide +kernel) c
theorem rworth_no (c : UInt8) : (∀ k : Fin 16, wmatch k.val c = false) → rworth c = -1 :=
  all_bytes (fun c => (∀ k : Fin 16, wmatch k.val c = false) → rworth c = -1) (by decide +kernel) c
theorem one_at (k : Nat) (h : k < 16) : us (ByteArray.extract ⟨#[48, 49, 50, 51, 52, 53, 54, 55, 56, 57, 65, 66, 67, 68, 69, 70]⟩ k (k + 1)) = [hexd k] := by
  have := (by decide : ∀ k : Fin 16, us (ByteArray.extract ⟨#[48, 49, 50, 51, 52, 53, 54, 55, 56, 57, 65, 66, 67, 68, 69, 70]⟩ k.val (k.val + 1)) = [hexd k.val])
  exact this ⟨k, h⟩
theorem lowerR_one (s : ByteArray) (c : UInt8) (h : us s = [c]) (w : World) :
    Calls Try.prog 26 #[.string s] w fun e w' => e = .returned (.string (bs [low c])) ∧ Below w.heap.size w w' := by
  have := lowerR_c s (by rw [← length_us, h]; simp) w
  rw [h] at this
  exact this

set_option maxHeartbeats 1600000 in
theorem worthR_c (c : UInt8) (w : World) :
    Calls Try.prog 44 #[.int .u8 c.toNat] w fun e w' => e = .returned (.int .i64 (rworth c)) ∧ Below w.heap.size w w' := by
  go_enter Try.func44, Try.ntmps44
  go_wp2
  go_loopw [3] (fun i wr => ∃ k : Nat, k ≤ 16 ∧ i = .int .i64 k ∧ (∀ j, j < k → wmatch j c = false) ∧ Below w.heap.size w wr) (fun i _ => 16 - (intOf i).toNat)
  case atStart => exact ⟨0, by omega, rfl, fun j hj => by omega, Below.refl _ _⟩
  case round =>
    obtain ⟨k, hk, rfl, hno, hB⟩ := hrel
    have HN := Lib.hid hno; clear hno
    by_cases hlt : k < 16
    · have i1 := fun wx => sixt_run (P := Try.prog) Try.underlying9 .i64 k hlt rfl wx
      have ho := Lib.hid (one_at k hlt)
      have hm := Lib.hid (rworth_at c ⟨k, hlt⟩)
      by_cases h1 : hexd k = c
      · have q1 : (((hexd k).toNat : Int) == (c.toNat : Int)) = true := by rw [h1]; simp
        have HM := Lib.hid (show rworth c = k from hm.out (by simp [wmatch, h1]))
        clear h1
        go_wp2
        go_ret
        exact ⟨ret_int HM.out.symm, hB⟩
      · have q1 : (((hexd k).toNat : Int) == (c.toNat : Int)) = false := by
          simp; intro e; exact h1 (UInt8.toNat_inj.1 (by omega))
        by_cases h2 : low (hexd k) = c
        · have q2 : (((low (hexd k)).toNat : Int) == (c.toNat : Int)) = true := by rw [h2]; simp
          have HM := Lib.hid (show rworth c = k from hm.out (by simp [wmatch, h2]))
          clear h1 h2
          go_wp2_with (go_at_call 26; refine (lowerR_one _ (hexd k) ho.out _).mono ?_; rintro e w1 ⟨rfl, hB1⟩)
          go_ret
          exact ⟨ret_int HM.out.symm, hB.trans (hB1.mono hB.size)⟩
        · have q2 : (((low (hexd k)).toNat : Int) == (c.toNat : Int)) = false := by
            simp; intro e; exact h2 (UInt8.toNat_inj.1 (by omega))
          have HK := Lib.hid (show wmatch k c = false by simp [wmatch, h1, h2])
          clear h1 h2
          go_wp2_with (go_at_call 26; refine (lowerR_one _ (hexd k) ho.out _).mono ?_; rintro e w1 ⟨rfl, hB1⟩)
          go_roundw
          case rel => exact ⟨k + 1, by omega, by go_num, fun j hj => by
            rcases Nat.lt_or_ge j k with h | h
            · exact HN.out j h
            · have : j = k := by omega
              rw [this]; exact HK.out, hB.trans (hB1.mono hB.size)⟩
          case measure => simp [intOf]; omega
    · have HM := Lib.hid (show rworth c = -1 from rworth_no c fun j => HN.out j.val (by have := j.isLt; omega))
      go_wp2
      go_ret
      exact ⟨ret_int HM.out.symm, hB⟩

theorem run_index_off {P : Program} {ty : TypeId} (hty : P.underlying ty = some .string) (s : ByteArray) (k : IntKind) (i : Nat) (h : i < s.size) {E : Int} (hE : E = (i : Int)) (w : World) :
    (Instr.index ty (.string s) (.int k E)).run P w = .ok (.int .u8 s[i].toNat) w := by subst hE; exact run_index_at hty s k i h w
theorem unesc_ne (c : UInt8) (r : List UInt8) (h : c.toNat ≠ 37) : unesc (c :: r) = (unesc r).map (c :: ·) := by
  match r with
  | [] => simp only [unesc, if_neg h]
  | [a] => rw [unesc.eq_def]; simp only [if_neg h]
  | a :: b :: r' => rw [unesc.eq_def]; simp only [if_neg h]
theorem unesc_plain (s : ByteArray) (k : Nat) (h : k < s.size) (hc : s[k].toNat ≠ 37) : unesc ((us s).drop k) = (unesc ((us s).drop (k + 1))).map (s[k] :: ·) := by
  rw [drop_us s k h, unesc_ne _ _ hc]
theorem unesc_two (s : ByteArray) (k : Nat) (h : k + 2 < s.size) (hc : s[k].toNat = 37) :
    unesc ((us s).drop k) = if testc 4 s[k + 1] && testc 4 s[k + 2] then (unesc ((us s).drop (k + 3))).map (UInt8.ofNat (16 * worth s[k + 1] + worth s[k + 2]) :: ·) else none := by
  rw [drop_us s k (by omega), drop_us s (k + 1) (by omega), drop_us s (k + 2) h]; simp only [unesc, if_pos hc]
theorem unesc_short (s : ByteArray) (k : Nat) (h : k < s.size) (h2 : s.size ≤ k + 2) (hc : s[k].toNat = 37) : unesc ((us s).drop k) = none := by
  rw [drop_us s k h]
  by_cases h1 : k + 1 < s.size
  · rw [drop_us s (k + 1) h1, drop_us_end s (k + 2) h2]; simp only [unesc, if_pos hc]
  · rw [drop_us_end s (k + 1) (by omega)]; simp only [unesc, if_pos hc]
theorem opt_step {f : List UInt8 → Option (List UInt8)} {x y z : Option (List UInt8)} {acc : List UInt8} {c : UInt8} (h : x = y.map (acc ++ ·)) (h' : y = z.map (c :: ·)) : x = z.map ((acc ++ [c]) ++ ·) := unq_step h h'
theorem hex_or (a b : Nat) (ha : a < 16) (hb : b < 16) : bits BinOp.or IntKind.u8 (IntKind.u8.wrap ((a : Int) * 16)) b = ((UInt8.ofNat (16 * a + b)).toNat : Int) := by
  have := (by decide +kernel : ∀ a b : Fin 16, bits BinOp.or IntKind.u8 (IntKind.u8.wrap ((a.val : Int) * 16)) b.val = ((UInt8.ofNat (16 * a.val + b.val)).toNat : Int))
  exact this ⟨a, ha⟩ ⟨b, hb⟩

theorem two_us (s : ByteArray) (k : Nat) (h : k + 2 < s.size) : us (s.extract (k + 1) (k + 3)) = [s[k + 1], s[k + 2]] := by
  rw [us_extract, drop_us s (k + 1) (by omega), drop_us s (k + 2) h]
  have : k + 3 - (k + 1) = 2 := by omega
  rw [this]; rfl
theorem all_two (s : ByteArray) (k : Nat) (h : k + 2 < s.size) (w : World) :
    Calls Try.prog 36 #[.string (s.extract (k + 1) (k + 3)), .int .i64 4] w fun e w' => e = .returned (.bool (testc 4 s[k + 1] && testc 4 s[k + 2])) ∧ w = w' := by
  have := all_c (s.extract (k + 1) (k + 3)) (by rw [size_extract _ _ _ (by omega)]; omega) 4 w
  rw [two_us s k h] at this
  have e : allc 4 [s[k + 1], s[k + 2]] = (testc 4 s[k + 1] && testc 4 s[k + 2]) := by simp [allc]
  rw [← e]; exact this

theorem nmW : (Try.f43.name == "runtime.NumGoroutine") = false := by kernel_rfl
theorem bdW : Try.f43.body.isNone = false := by kernel_rfl
set_option maxHeartbeats 3200000 in
theorem unescape_c (s : ByteArray) (hs : s.size ≤ 140737488355328) (w : World) :
    Calls Try.prog 31 #[.string s] w fun e w' => e = .returned (.tuple #[.string (bs (unescape (us s)).1), .int .i64 (unescape (us s)).2]) ∧ Below w.heap.size w w' := by
  go_enter Try.func31, Try.ntmps31
  go_wp2
  go_loopw [4, 5] (fun v i wr => ∃ (k : Nat) (acc : List UInt8), k ≤ s.size ∧ i = .int .i64 k ∧ Byt wr w.heap.size 5 v acc ∧ acc.length ≤ k ∧ unesc (us s) = (unesc ((us s).drop k)).map (acc ++ ·) ∧ Below w.heap.size w wr) (fun _ i _ => s.size - (intOf i).toNat)
  case atStart => exact ⟨0, [], Nat.zero_le _, rfl, Byt.nil _ _ _, Nat.le_refl _, by simp, Below.refl _ _⟩
  case round =>
    obtain ⟨k, acc, hk, rfl, hown, hal, hu, hB⟩ := hrel
    have HB := Lib.hid hu; clear hu
    by_cases hlt : k < s.size
    · by_cases hc : s[k].toNat = 37
      · have q0 : ((s[k].toNat : Int) != 37) = false := by simp; omega
        by_cases h2 : k + 2 < s.size
        · have HD := Lib.hid (unesc_two s k h2 hc)
          clear hc
          cases ht : testc 4 s[k + 1] && testc 4 s[k + 2] with
          | false =>
            have HF := Lib.hid (show unescape (us s) = ([], 12) by rw [unescape, HB.out, HD.out, ht]; rfl)
            go_wp2_with (go_at_call 36; refine (all_two s k h2 _).mono ?_; rintro e w' ⟨rfl, rfl⟩)
            go_ret2
            exact ⟨ret_si (by rw [HF.out]; rfl), hB⟩
          | true =>
            have HS := Lib.hid (unq_step HB.out (show unesc ((us s).drop k) = (unesc ((us s).drop (k + 3))).map (UInt8.ofNat (16 * worth s[k + 1] + worth s[k + 2]) :: ·) by rw [HD.out, ht]; rfl))
            have ht' : testc 4 s[k + 1] = true ∧ testc 4 s[k + 2] = true := by simpa using ht
            obtain ⟨ta, tb⟩ := ht'
            have TA := Lib.hid ta
            have TB := Lib.hid tb
            have wa := (worth_v _ ta).2.2
            have wb := (worth_v _ tb).2.2
            go_wp2_with (go_at_call 36; refine (all_two s k h2 _).mono ?_; rintro e w' ⟨rfl, rfl⟩)
            clear ta tb ht
            have p1 : k + 1 < s.size := by omega
            have p2 : k + 2 < s.size := by omega
            have hbd : acc.length + 1 ≤ 140737488355328 := by omega
            have k1 : (0 : Int) ≤ (k : Int) + 1 := by omega
            have k2 : (k : Int) + 1 < (s.size : Int) := by omega
            have k3 : (0 : Int) ≤ (k : Int) + 2 := by omega
            have k4 : (k : Int) + 2 < (s.size : Int) := by omega
            have k5 : ((k : Int) + 1).toNat = k + 1 := by omega
            have k6 : ((k : Int) + 2).toNat = k + 2 := by omega
            have k7 : IntKind.i64.wrap ((k : Int) + 1) = (k : Int) + 1 := IntWalk.i64_in _ (by omega)
            have k8 : IntKind.i64.wrap ((k : Int) + 2) = (k : Int) + 2 := IntWalk.i64_in _ (by omega)
            go_region_law (first | (refine step_call1 (v0 := .int .u8 (s[k + 1]'p1).toNat) (v := .int .u8 (worth (s[k + 1]'p1))) rfl rfl Try.func43 nmW bdW ?_ ?_ ?_; (focus rfl); (focus (exact worth_c _ TA.out _))) | (refine step_call1 (v0 := .int .u8 (s[k + 2]'p2).toNat) (v := .int .u8 (worth (s[k + 2]'p2))) rfl rfl Try.func43 nmW bdW ?_ ?_ ?_; (focus rfl); (focus (exact worth_c _ TB.out _))) | (refine step_appB1 (UInt8.ofNat (16 * worth (s[k + 1]'p1) + worth (s[k + 2]'p2))) (hex_or _ _ wa wb) rfl rfl Try.underlying25 infoB rfl rfl hown.drew hB.drew (Nat.le_refl _) hbd ?_; intro v1 w1 ho1 hb1))
            all_goals
              try clear k7
              try clear k8
              try clear k5
              try clear k6
              go_wp2
              go_roundw
              case rel => exact ⟨k + 3, _, by omega, by simp; omega, ho1, by simp; omega, HS.out, hb1⟩
              case measure => simp [intOf]; omega
        · have HF := Lib.hid (show unescape (us s) = ([], 12) by rw [unescape, HB.out, unesc_short s k hlt (by omega) hc]; rfl)
          clear hc
          go_wp2
          go_ret2
          exact ⟨ret_si (by rw [HF.out]; rfl), hB⟩
      · have q0 : ((s[k].toNat : Int) != 37) = true := by simp; omega
        have HS := Lib.hid (unq_step HB.out (unesc_plain s k hlt hc))
        clear hc
        go_wp2_with (at_builtin; refine wpList_appB1 s[k] rfl rfl rfl Try.underlying25 infoB rfl rfl hown hB (Nat.le_refl _) ?_ ?_; (focus omega); intro v1 w1 ho1 hb1)
        go_roundw
        case rel => exact ⟨k + 1, _, by omega, by go_num, ho1, by simp; omega, HS.out, hb1⟩
        case measure => simp [intOf]; omega
    · have HF := Lib.hid (show unescape (us s) = (acc, 0) by rw [unescape, HB.out, drop_us_end s k (by omega)]; simp [unesc, okOr])
      go_wp2_with (refine wpList_str rfl rfl Try.underlying25 Try.underlying5 Try.underlying9 rfl hown ?_)
      go_ret2
      exact ⟨ret_si (by rw [HF.out]; simp), hB⟩

end Go.Proofs.Ytbkeommlolcaiaa
