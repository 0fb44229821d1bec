/-
  Packed: XScR, XScS.
-/
import Derived.Test.YtipdiddjhimdcaaGreatDoorB02
import Derived.Test.YtipdiddjhimdcaaGreatDoorB01
namespace Go.Proofs.YtipdiddjhimdcaaGreatDoor

section
open Go.RowKit

@[simp] theorem get_bs (l : List UInt8) (i : Nat) (h : i < (bs l).size) : (bs l)[i] = l[i]'(by rw [size_bs] at h; exact h) := by
  have h1 := get_us (bs l) i h
  rw [us_bs] at h1
  have h2 : i < l.length := by rw [size_bs] at h; exact h
  rw [List.getElem?_eq_getElem h2] at h1
  exact (Option.some.inj h1).symm
def rworth (c : UInt8) : Int := if testc 4 c then worth c else -1
def wmatch (k : Nat) (c : UInt8) : Bool := hexd k == c || low (hexd k) == c
theorem rworth_at (c : UInt8) : ∀ k : Fin 16, wmatch k.val c = true → rworth c = k.val :=
  all_bytes (fun c => ∀ k : Fin 16, wmatch k.val c = true → rworth c = k.val) (by decide +kernel) c
theorem rworth_no (c : UInt8) : (∀ k : Fin 16, wmatch k.val c = false) → rworth c = -1 :=
  all_bytes (fun c => (∀ k : Fin 16, wmatch k.val c = false) → rworth c = -1) (by decide +kernel) c
theorem one_at (k : Nat) (h : k < 16) : us (ByteArray.extract ⟨#[48, 49, 50, 51, 52, 53, 54, 55, 56, 57, 65, 66, 67, 68, 69, 70]⟩ k (k + 1)) = [hexd k] := by
  have := (by decide : ∀ k : Fin 16, us (ByteArray.extract ⟨#[48, 49, 50, 51, 52, 53, 54, 55, 56, 57, 65, 66, 67, 68, 69, 70]⟩ k.val (k.val + 1)) = [hexd k.val])
  exact this ⟨k, h⟩
theorem lowerR_one (s : ByteArray) (c : UInt8) (h : us s = [c]) (w : World) :
    Calls Tryz.prog 123 #[.string s] w fun e w' => e = .returned (.string (bs [low c])) ∧ Below w.heap.size w w' := by
  have := lowerR_c s (by rw [← length_us, h]; simp) w
  rw [h] at this
  exact this

set_option maxHeartbeats 1600000 in
theorem worthR_c (c : UInt8) (w : World) :
    Calls Tryz.prog 193 #[.int .u8 c.toNat] w fun e w' => e = .returned (.int .i64 (rworth c)) ∧ Below w.heap.size w w' := by
  go_enter Tryz.func193, Tryz.ntmps193
  go_wp2
  go_loopw [3] (fun i wr => ∃ k : Nat, k ≤ 16 ∧ i = .int .i64 k ∧ (∀ j, j < k → wmatch j c = false) ∧ Below w.heap.size w wr) (fun i _ => 16 - (intOf i).toNat)
  case atStart => exact ⟨0, by omega, rfl, fun j hj => by omega, Below.refl _ _⟩
  case round =>
    obtain ⟨k, hk, rfl, hno, hB⟩ := hrel
    have HN := Lib.hid hno; clear hno
    by_cases hlt : k < 16
    · have i1 := fun wx => sixt_run (P := Tryz.prog) Tryz.underlying9 .i64 k hlt rfl wx
      have ho := Lib.hid (one_at k hlt)
      have hm := Lib.hid (rworth_at c ⟨k, hlt⟩)
      by_cases h1 : hexd k = c
      · have q1 : (((hexd k).toNat : Int) == (c.toNat : Int)) = true := by rw [h1]; simp
        have HM := Lib.hid (show rworth c = k from hm.out (by simp [wmatch, h1]))
        clear h1
        go_wp2
        go_ret
        exact ⟨ret_int HM.out.symm, hB⟩
      · have q1 : (((hexd k).toNat : Int) == (c.toNat : Int)) = false := by
          simp; intro e; exact h1 (UInt8.toNat_inj.1 (by omega))
        by_cases h2 : low (hexd k) = c
        · have q2 : (((low (hexd k)).toNat : Int) == (c.toNat : Int)) = true := by rw [h2]; simp
          have HM := Lib.hid (show rworth c = k from hm.out (by simp [wmatch, h2]))
          clear h1 h2
          go_wp2_with (go_at_call 123; refine (lowerR_one _ (hexd k) ho.out _).mono ?_; rintro e w1 ⟨rfl, hB1⟩)
          go_ret
          exact ⟨ret_int HM.out.symm, hB.trans (hB1.mono hB.size)⟩
        · have q2 : (((low (hexd k)).toNat : Int) == (c.toNat : Int)) = false := by
            simp; intro e; exact h2 (UInt8.toNat_inj.1 (by omega))
          have HK := Lib.hid (show wmatch k c = false by simp [wmatch, h1, h2])
          clear h1 h2
          go_wp2_with (go_at_call 123; refine (lowerR_one _ (hexd k) ho.out _).mono ?_; rintro e w1 ⟨rfl, hB1⟩)
          go_roundw
          case rel => exact ⟨k + 1, by omega, by go_num, fun j hj => by
            rcases Nat.lt_or_ge j k with h | h
            · exact HN.out j h
            · have : j = k := by omega
              rw [this]; exact HK.out, hB.trans (hB1.mono hB.size)⟩
          case measure => simp [intOf]; omega
    · have HM := Lib.hid (show rworth c = -1 from rworth_no c fun j => HN.out j.val (by have := j.isLt; omega))
      go_wp2
      go_ret
      exact ⟨ret_int HM.out.symm, hB⟩

theorem unesc_ne (c : UInt8) (r : List UInt8) (h : c.toNat ≠ 37) : unesc (c :: r) = (unesc r).map (c :: ·) := by
  match r with
  | [] => simp only [unesc, if_neg h]
  | [a] => rw [unesc.eq_def]; simp only [if_neg h]
  | a :: b :: r' => rw [unesc.eq_def]; simp only [if_neg h]
theorem unesc_plain (s : ByteArray) (k : Nat) (h : k < s.size) (hc : s[k].toNat ≠ 37) : unesc ((us s).drop k) = (unesc ((us s).drop (k + 1))).map (s[k] :: ·) := by
  rw [drop_us s k h, unesc_ne _ _ hc]
theorem unesc_two (s : ByteArray) (k : Nat) (h : k + 2 < s.size) (hc : s[k].toNat = 37) :
    unesc ((us s).drop k) = if testc 4 s[k + 1] && testc 4 s[k + 2] then (unesc ((us s).drop (k + 3))).map (UInt8.ofNat (16 * worth s[k + 1] + worth s[k + 2]) :: ·) else none := by
  rw [drop_us s k (by omega), drop_us s (k + 1) (by omega), drop_us s (k + 2) h]; simp only [unesc, if_pos hc]
theorem unesc_short (s : ByteArray) (k : Nat) (h : k < s.size) (h2 : s.size ≤ k + 2) (hc : s[k].toNat = 37) : unesc ((us s).drop k) = none := by
  rw [drop_us s k h]
  by_cases h1 : k + 1 < s.size
  · rw [drop_us s (k + 1) h1, drop_us_end s (k + 2) h2]; simp only [unesc, if_pos hc]
  · rw [drop_us_end s (k + 1) (by omega)]; simp only [unesc, if_pos hc]
theorem hex_or (a b : Nat) (ha : a < 16) (hb : b < 16) : bits BinOp.or IntKind.u8 (IntKind.u8.wrap ((a : Int) * 16)) b = ((UInt8.ofNat (16 * a + b)).toNat : Int) := by
  have := (by decide +kernel : ∀ a b : Fin 16, bits BinOp.or IntKind.u8 (IntKind.u8.wrap ((a.val : Int) * 16)) b.val = ((UInt8.ofNat (16 * a.val + b.val)).toNat : Int))
  exact this ⟨a, ha⟩ ⟨b, hb⟩

theorem two_us (s : ByteArray) (k : Nat) (h : k + 2 < s.size) : us (s.extract (k + 1) (k + 3)) = [s[k + 1], s[k + 2]] := by
  rw [us_extract, drop_us s (k + 1) (by omega), drop_us s (k + 2) h]
  have : k + 3 - (k + 1) = 2 := by omega
  rw [this]; rfl
theorem all_two (s : ByteArray) (k : Nat) (h : k + 2 < s.size) (w : World) :
    Calls Tryz.prog 78 #[.string (s.extract (k + 1) (k + 3)), .int .i64 4] w fun e w' => e = .returned (.bool (testc 4 s[k + 1] && testc 4 s[k + 2])) ∧ w = w' := by
  have := all_c (s.extract (k + 1) (k + 3)) (by rw [size_extract _ _ _ (by omega)]; omega) 4 w
  rw [two_us s k h] at this
  have e : allc 4 [s[k + 1], s[k + 2]] = (testc 4 s[k + 1] && testc 4 s[k + 2]) := by simp [allc]
  rw [← e]; exact this

theorem nmW : (Tryz.f190.name == "runtime.NumGoroutine") = false := by kernel_rfl
theorem bdW : Tryz.f190.body.isNone = false := by kernel_rfl
set_option maxRecDepth 100000 in
set_option maxHeartbeats 3200000 in
theorem unescape_c (s : ByteArray) (hs : s.size ≤ 140737488355328) (w : World) :
    Calls Tryz.prog 159 #[.string s] w fun e w' => e = .returned (.tuple #[.string (bs (unescape (us s)).1), .int .i64 (unescape (us s)).2]) ∧ Below w.heap.size w w' := by
  go_enter Tryz.func159, Tryz.ntmps159
  go_wp2
  go_loopw [4, 5] (fun v i wr => ∃ (k : Nat) (acc : List UInt8), k ≤ s.size ∧ i = .int .i64 k ∧ Byt wr w.heap.size 5 v acc ∧ acc.length ≤ k ∧ unesc (us s) = (unesc ((us s).drop k)).map (acc ++ ·) ∧ Below w.heap.size w wr) (fun _ i _ => s.size - (intOf i).toNat)
  case atStart => exact ⟨0, [], Nat.zero_le _, rfl, Byt.nil _ _ _, Nat.le_refl _, by simp, Below.refl _ _⟩
  case round =>
    obtain ⟨k, acc, hk, rfl, hown, hal, hu, hB⟩ := hrel
    have HB := Lib.hid hu; clear hu
    by_cases hlt : k < s.size
    · by_cases hc : s[k].toNat = 37
      · have q0 : ((s[k].toNat : Int) != 37) = false := by simp; omega
        by_cases h2 : k + 2 < s.size
        · have HD := Lib.hid (unesc_two s k h2 hc)
          clear hc
          cases ht : testc 4 s[k + 1] && testc 4 s[k + 2] with
          | false =>
            have HF := Lib.hid (show unescape (us s) = ([], 12) by rw [unescape, HB.out, HD.out, ht]; rfl)
            go_wp2_with (go_at_call 78; refine (all_two s k h2 _).mono ?_; rintro e w' ⟨rfl, rfl⟩)
            go_ret2
            exact ⟨ret_si (by rw [HF.out]; rfl), hB⟩
          | true =>
            have HS := Lib.hid (unq_step HB.out (show unesc ((us s).drop k) = (unesc ((us s).drop (k + 3))).map (UInt8.ofNat (16 * worth s[k + 1] + worth s[k + 2]) :: ·) by rw [HD.out, ht]; rfl))
            have ht' : testc 4 s[k + 1] = true ∧ testc 4 s[k + 2] = true := by simpa using ht
            obtain ⟨ta, tb⟩ := ht'
            have TA := Lib.hid ta
            have TB := Lib.hid tb
            have wa := (worth_v _ ta).2.2
            have wb := (worth_v _ tb).2.2
            go_wp2_with (go_at_call 78; refine (all_two s k h2 _).mono ?_; rintro e w' ⟨rfl, rfl⟩)
            clear ta tb ht
            have p1 : k + 1 < s.size := by omega
            have p2 : k + 2 < s.size := by omega
            have hbd : acc.length + 1 ≤ 140737488355328 := by omega
            have k1 : (0 : Int) ≤ (k : Int) + 1 := by omega
            have k2 : (k : Int) + 1 < (s.size : Int) := by omega
            have k3 : (0 : Int) ≤ (k : Int) + 2 := by omega
            have k4 : (k : Int) + 2 < (s.size : Int) := by omega
            have k5 : ((k : Int) + 1).toNat = k + 1 := by omega
            have k6 : ((k : Int) + 2).toNat = k + 2 := by omega
            have k7 : IntKind.i64.wrap ((k : Int) + 1) = (k : Int) + 1 := IntWalk.i64_in _ (by omega)
            have k8 : IntKind.i64.wrap ((k : Int) + 2) = (k : Int) + 2 := IntWalk.i64_in _ (by omega)
            go_region_law (first | (refine step_call1 (v0 := .int .u8 (s[k + 1]'p1).toNat) (v := .int .u8 (worth (s[k + 1]'p1))) rfl rfl Tryz.func190 nmW bdW ?_ ?_ ?_; (focus rfl); (focus (exact worth_c _ TA.out _))) | (refine step_call1 (v0 := .int .u8 (s[k + 2]'p2).toNat) (v := .int .u8 (worth (s[k + 2]'p2))) rfl rfl Tryz.func190 nmW bdW ?_ ?_ ?_; (focus rfl); (focus (exact worth_c _ TB.out _))) | (refine step_appB1 (UInt8.ofNat (16 * worth (s[k + 1]'p1) + worth (s[k + 2]'p2))) (hex_or _ _ wa wb) rfl rfl Tryz.underlying140 infoB rfl rfl hown.drew hB.drew (Nat.le_refl _) hbd ?_; intro v1 w1 ho1 hb1))
            all_goals
              try clear k7
              try clear k8
              try clear k5
              try clear k6
              go_wp2
              go_roundw
              case rel => exact ⟨k + 3, _, by omega, by simp; omega, ho1, by simp; omega, HS.out, hb1⟩
              case measure => simp [intOf]; omega
        · have HF := Lib.hid (show unescape (us s) = ([], 12) by rw [unescape, HB.out, unesc_short s k hlt (by omega) hc]; rfl)
          clear hc
          go_wp2
          go_ret2
          exact ⟨ret_si (by rw [HF.out]; rfl), hB⟩
      · have q0 : ((s[k].toNat : Int) != 37) = true := by simp; omega
        have HS := Lib.hid (unq_step HB.out (unesc_plain s k hlt hc))
        clear hc
        go_wp2_with (at_builtin; refine wpList_appB1 s[k] rfl rfl rfl Tryz.underlying140 infoB rfl rfl hown hB (Nat.le_refl _) ?_ ?_; (focus omega); intro v1 w1 ho1 hb1)
        go_roundw
        case rel => exact ⟨k + 1, _, by omega, by go_num, ho1, by simp; omega, HS.out, hb1⟩
        case measure => simp [intOf]; omega
    · have HF := Lib.hid (show unescape (us s) = (acc, 0) by rw [unescape, HB.out, drop_us_end s k (by omega)]; simp [unesc, okOr])
      go_wp2_with (refine wpList_str rfl rfl Tryz.underlying140 Tryz.underlying5 Tryz.underlying9 rfl hown ?_)
      go_ret2
      exact ⟨ret_si (by rw [HF.out]; simp), hB⟩
end

section
open Go.RowKit

theorem worthR_v (c : UInt8) (b : Bool) (h : testc 4 c = b) (w : World) :
    Calls Tryz.prog 193 #[.int .u8 c.toNat] w fun e w' => e = .returned (.int .i64 (if b then (worth c : Int) else -1)) ∧ Below w.heap.size w w' := by
  have := worthR_c c w
  unfold rworth at this
  rw [h] at this
  exact this
theorem nmR : (Tryz.f193.name == "runtime.NumGoroutine") = false := by kernel_rfl
theorem bdR : Tryz.f193.body.isNone = false := by kernel_rfl

theorem hex_add (a b : Nat) (ha : a < 16) (hb : b < 16) : IntKind.u8.wrap (IntKind.i64.wrap (IntKind.i64.wrap (16 * (a : Int)) + (b : Int))) = ((UInt8.ofNat (16 * a + b)).toNat : Int) := by
  have := (by decide +kernel : ∀ a b : Fin 16, IntKind.u8.wrap (IntKind.i64.wrap (IntKind.i64.wrap (16 * (a.val : Int)) + (b.val : Int))) = ((UInt8.ofNat (16 * a.val + b.val)).toNat : Int))
  exact this ⟨a, ha⟩ ⟨b, hb⟩

set_option maxRecDepth 4000 in
set_option maxHeartbeats 3200000 in
theorem unescapeR_c (s : ByteArray) (hs : s.size ≤ 140737488355328) (w : World) :
    Calls Tryz.prog 170 #[.string s] w fun e w' => e = .returned (.tuple #[.string (bs (unescape (us s)).1), .int .i64 (unescape (us s)).2]) ∧ Below w.heap.size w w' := by
  go_enter Tryz.func170, Tryz.ntmps170
  go_wp2
  go_loopw [4, 5] (fun v i wr => ∃ (k : Nat) (acc : List UInt8), k ≤ s.size ∧ i = .int .i64 k ∧ Byt wr w.heap.size 5 v acc ∧ acc.length ≤ k ∧ unesc (us s) = (unesc ((us s).drop k)).map (acc ++ ·) ∧ Below w.heap.size w wr) (fun _ i _ => s.size - (intOf i).toNat)
  case atStart => exact ⟨0, [], Nat.zero_le _, rfl, Byt.nil _ _ _, Nat.le_refl _, by simp, Below.refl _ _⟩
  case round =>
    obtain ⟨k, acc, hk, rfl, hown, hal, hu, hB⟩ := hrel
    have HB := Lib.hid hu; clear hu
    by_cases hlt : k < s.size
    · by_cases hc : s[k].toNat = 37
      · have q0 : ((s[k].toNat : Int) != 37) = false := by simp; omega
        by_cases h2 : k + 2 < s.size
        · have HD := Lib.hid (unesc_two s k h2 hc)
          clear hc
          cases ta : testc 4 s[k + 1] with
          | false =>
            have HF := Lib.hid (show unescape (us s) = ([], 12) by rw [unescape, HB.out, HD.out, ta]; rfl)
            go_wp2_with (go_at_call 193; refine (worthR_v s[k + 1] false ta _).mono ?_; rintro e w1 ⟨rfl, hB1⟩)
            go_ret2
            exact ⟨ret_si (by rw [HF.out]; rfl), hB.trans (hB1.mono hB.size)⟩
          | true =>
            cases tb : testc 4 s[k + 2] with
            | false =>
              have HF := Lib.hid (show unescape (us s) = ([], 12) by rw [unescape, HB.out, HD.out, ta, tb]; rfl)
              have wa := (worth_v _ ta).2.2
              go_wp2_with fail
              refine (worthR_v s[k + 1] true ta _).mono ?_
              rintro e w1 ⟨rfl, hB1⟩
              go_wp2_with fail
              refine (worthR_v s[k + 2] false tb _).mono ?_
              rintro e w2 ⟨rfl, hB2⟩
              go_wp2_with fail
              go_ret2
              exact ⟨ret_si (by rw [HF.out]; rfl), hB.trans ((hB1.mono hB.size).trans (hB2.mono (Nat.le_trans hB.size hB1.size)))⟩
            | true =>
              have HS := Lib.hid (unq_step HB.out (show unesc ((us s).drop k) = (unesc ((us s).drop (k + 3))).map (UInt8.ofNat (16 * worth s[k + 1] + worth s[k + 2]) :: ·) by rw [HD.out, ta, tb]; rfl))
              have wa := (worth_v _ ta).2.2
              have wb := (worth_v _ tb).2.2
              have TA := Lib.hid ta
              have TB := Lib.hid tb
              go_wp2_with fail
              refine (worthR_v s[k + 1] true ta _).mono ?_
              rintro e w1 ⟨rfl, hB1⟩
              go_wp2_with fail
              refine (worthR_v s[k + 2] true tb _).mono ?_
              rintro e w2 ⟨rfl, hB2⟩
              go_wp2_with fail
              have hown2 := (hown.below hB1 (Nat.le_refl _)).below hB2 (Nat.le_refl _)
              have hBB := hB.trans ((hB1.mono hB.size).trans (hB2.mono (Nat.le_trans hB.size hB1.size)))
              clear ta tb hown hB hB1 hB2
              have p1 : k + 1 < s.size := by omega
              have p2 : k + 2 < s.size := by omega
              have hbd : acc.length + 1 ≤ 140737488355328 := by omega
              have k1 : (0 : Int) ≤ (k : Int) + 1 := by omega
              have k2 : (k : Int) + 1 < (s.size : Int) := by omega
              have k3 : (0 : Int) ≤ (k : Int) + 2 := by omega
              have k4 : (k : Int) + 2 < (s.size : Int) := by omega
              have k5 : ((k : Int) + 1).toNat = k + 1 := by omega
              have k6 : ((k : Int) + 2).toNat = k + 2 := by omega
              have k7 : IntKind.i64.wrap ((k : Int) + 1) = (k : Int) + 1 := IntWalk.i64_in _ (by omega)
              have k8 : IntKind.i64.wrap ((k : Int) + 2) = (k : Int) + 2 := IntWalk.i64_in _ (by omega)
              go_region_law (first | (refine step_callB1 (v0 := .int .u8 (s[k + 1]'p1).toNat) (v := .int .i64 (worth (s[k + 1]'p1))) rfl rfl Tryz.func193 nmR bdR ?_ ?_ ?_; (focus rfl); (focus (exact worthR_v _ true TA.out _)); intro w3 hB3) | (refine step_callB1 (v0 := .int .u8 (s[k + 2]'p2).toNat) (v := .int .i64 (worth (s[k + 2]'p2))) rfl rfl Tryz.func193 nmR bdR ?_ ?_ ?_; (focus rfl); (focus (exact worthR_v _ true TB.out _)); intro w4 hB4) | (refine step_appB1 (UInt8.ofNat (16 * worth (s[k + 1]'p1) + worth (s[k + 2]'p2))) (hex_add _ _ wa wb) rfl rfl Tryz.underlying140 infoB rfl rfl ((hown2.drew.below hB3 (Nat.le_refl _)).below hB4 (Nat.le_refl _)) (hBB.drew.trans ((hB3.mono hBB.drew.size).trans (hB4.mono (Nat.le_trans hBB.drew.size hB3.size)))) (Nat.le_refl _) hbd ?_; intro v1 w5 ho1 hb1))
              all_goals
                try clear k7
                try clear k8
                try clear k5
                try clear k6
                go_wp2
                go_roundw
                case rel => exact ⟨k + 3, _, by omega, by go_num, ho1, by simp; omega, HS.out, hb1⟩
                case measure => simp [intOf]; omega
        · have HF := Lib.hid (show unescape (us s) = ([], 12) by rw [unescape, HB.out, unesc_short s k hlt (by omega) hc]; rfl)
          clear hc
          go_wp2
          go_ret2
          exact ⟨ret_si (by rw [HF.out]; rfl), hB⟩
      · have q0 : ((s[k].toNat : Int) != 37) = true := by simp; omega
        have HS := Lib.hid (unq_step HB.out (unesc_plain s k hlt hc))
        clear hc
        go_wp2_with (at_builtin; refine wpList_appB1 s[k] rfl rfl rfl Tryz.underlying140 infoB rfl rfl hown hB (Nat.le_refl _) ?_ ?_; (focus omega); intro v1 w1 ho1 hb1)
        go_roundw
        case rel => exact ⟨k + 1, _, by omega, by go_num, ho1, by simp; omega, HS.out, hb1⟩
        case measure => simp [intOf]; omega
    · have HF := Lib.hid (show unescape (us s) = (acc, 0) by rw [unescape, HB.out, drop_us_end s k (by omega)]; simp [unesc, okOr])
      go_wp2_with (refine wpList_str rfl rfl Tryz.underlying140 Tryz.underlying5 Tryz.underlying9 rfl hown ?_)
      go_ret2
      exact ⟨ret_si (by rw [HF.out]; simp), hB⟩

end

section
open Go.RowKit

theorem infoS : infoIs Tryz.prog 9 (.string ⟨#[]⟩) 1 16 := by unfold infoIs; kernel_rfl
theorem pg_esc (sep : UInt8) (a : Bool) (cur : List UInt8) (s : ByteArray) (k : Nat) (h : k < s.size) (hc : s[k].toNat = 92) :
    partsGo sep true a cur ((us s).drop k) = partsGo sep true a (cur ++ ((us s).drop k).take 2) ((us s).drop (k + 2)) := by
  rw [drop_us s k h]
  by_cases h1 : k + 1 < s.size
  · rw [drop_us s (k + 1) h1]; simp [partsGo, hc]
  · rw [drop_us_end s (k + 1) (by omega), drop_us_end s (k + 2) (by omega)]; simp [partsGo, hc]
theorem pg_cons (sep : UInt8) (q a : Bool) (cur : List UInt8) (c : UInt8) (r : List UInt8) (h : ¬ (q = true ∧ c.toNat = 92)) :
    partsGo sep q a cur (c :: r) = if c.toNat = 34 then partsGo sep (!q) a (cur ++ [c]) r
    else if q = true then partsGo sep q a (cur ++ [c]) r
    else if c.toNat = 60 then partsGo sep q true (cur ++ [c]) r
    else if c.toNat = 62 then partsGo sep q false (cur ++ [c]) r
    else if c.toNat = sep.toNat ∧ a = false then cur :: partsGo sep q a [] r
    else partsGo sep q a (cur ++ [c]) r := by
  rw [partsGo.eq_def]; simp only [if_neg h]
/-- the piece so far -/
def piece (s : ByteArray) (fr k : Nat) : List UInt8 := ((us s).drop fr).take (k - fr)
theorem piece_snoc (s : ByteArray) (fr k : Nat) (h : fr ≤ k) (hk : k < s.size) : piece s fr k ++ [s[k]] = piece s fr (k + 1) := by
  unfold piece
  have := cut_snoc s fr (k + 1) (by omega) (by omega)
  simp only [Nat.add_sub_cancel] at this
  exact this.symm
theorem piece_two (s : ByteArray) (fr k : Nat) (h : fr ≤ k) : piece s fr k ++ ((us s).drop k).take 2 = piece s fr (k + 2) := by
  unfold piece
  have e1 : k + 2 - fr = (k - fr) + 2 := by omega
  have e2 : (us s).drop k = ((us s).drop fr).drop (k - fr) := by rw [List.drop_drop]; congr 1; omega
  rw [e1, e2, ← List.take_add]
theorem piece_end (s : ByteArray) (fr k : Nat) (h : s.size ≤ k) : piece s fr k = (us s).drop fr := by
  unfold piece; rw [List.take_of_length_le]; rw [List.length_drop, length_us]; omega
theorem piece_self (s : ByteArray) (k : Nat) : piece s k k = [] := by unfold piece; rw [Nat.sub_self, List.take_zero]

set_option maxHeartbeats 6400000 in
theorem parts_c (s : ByteArray) (hs : s.size ≤ 4398046511104) (sep : UInt8) (w : World) :
    Calls Tryz.prog 61 #[.string s, .int .u8 sep.toNat] w fun e w' => ∃ v, e = .returned v ∧ RStrs w' v (parts (us s) sep) ∧ Below w.heap.size w w' := by
  go_enter Tryz.func61, Tryz.ntmps61
  go_wp2
  go_loopw [5, 6, 7, 8, 9] (fun v f qq aa i wr => ∃ (k fr : Nat) (q a : Bool) (L : List (List UInt8)), fr ≤ k ∧ fr ≤ s.size ∧ k ≤ s.size + 1 ∧ i = .int .i64 k ∧ f = .int .i64 fr ∧ qq = .bool q ∧ aa = .bool a ∧ L.length ≤ k ∧ Strs wr w.heap.size 9 v L ∧ parts (us s) sep = L ++ partsGo sep q a (piece s fr k) ((us s).drop k) ∧ Below w.heap.size w wr) (fun _ _ _ _ i _ => s.size + 1 - (intOf i).toNat)
  case atStart => exact ⟨0, 0, false, false, [], Nat.le_refl _, Nat.zero_le _, by omega, rfl, rfl, rfl, rfl, Nat.le_refl _, Strs.nil _ _ _, rfl, Below.refl _ _⟩
  case round =>
    obtain ⟨k, fr, q, a, L, hf1, hf2, hk, rfl, rfl, rfl, rfl, hl, hown, hp, hB⟩ := hrel
    have HP := Lib.hid hp; clear hp
    by_cases hlt : k < s.size
    · have hd := Lib.hid (drop_us s k hlt)
      have ps := Lib.hid (piece_snoc s fr k hf1 hlt)
      have p0 := Lib.hid (piece_self s (k + 1))
      by_cases hA : q = true ∧ s[k].toNat = 92
      · obtain ⟨rfl, h92⟩ := hA
        have HN := Lib.hid (show parts (us s) sep = L ++ partsGo sep true a (piece s fr (k + 2)) ((us s).drop (k + 2)) by rw [HP.out, pg_esc sep a _ s k hlt h92, piece_two s fr k hf1])
        have t92 : ((s[k].toNat : Int) == 92) = true := by simp; omega
        clear h92
        go_wp2
        go_roundw
        case rel => exact ⟨k + 2, fr, true, a, L, by omega, hf2, by omega, by go_num, rfl, rfl, rfl, by omega, hown, HN.out, hB⟩
        case measure => simp [intOf]; omega
      have hpg := Lib.hid (pg_cons sep q a (piece s fr k) s[k] ((us s).drop (k + 1)) hA)
      by_cases h34 : s[k].toNat = 34
      · have HN := Lib.hid (show parts (us s) sep = L ++ partsGo sep (!q) a (piece s fr (k + 1)) ((us s).drop (k + 1)) by rw [HP.out, hd.out, hpg.out, if_pos h34, ps.out])
        have t92 : ((s[k].toNat : Int) == 92) = false := by simp; omega
        have t34 : ((s[k].toNat : Int) == 34) = true := by simp; omega
        clear h34 hA
        cases q
        all_goals
          go_wp2
          go_roundw
          case rel => exact ⟨k + 1, fr, _, a, L, by omega, hf2, by omega, by go_num, rfl, rfl, rfl, by omega, hown, HN.out, hB⟩
          case measure => simp [intOf]; omega
      have t34 : ((s[k].toNat : Int) == 34) = false := by simp; omega
      have N34 := Lib.hid h34
      clear h34
      cases q with
      | true =>
        have t92 : ((s[k].toNat : Int) == 92) = false := by simp; simp at hA; omega
        clear hA
        have HN := Lib.hid (show parts (us s) sep = L ++ partsGo sep true a (piece s fr (k + 1)) ((us s).drop (k + 1)) by rw [HP.out, hd.out, hpg.out, if_neg N34.out, if_pos rfl, ps.out])
        go_wp2
        go_roundw
        case rel => exact ⟨k + 1, fr, true, a, L, by omega, hf2, by omega, by go_num, rfl, rfl, rfl, by omega, hown, HN.out, hB⟩
        case measure => simp [intOf]; omega
      | false =>
        clear hA
        by_cases h60 : s[k].toNat = 60
        · have HN := Lib.hid (show parts (us s) sep = L ++ partsGo sep false true (piece s fr (k + 1)) ((us s).drop (k + 1)) by rw [HP.out, hd.out, hpg.out, if_neg N34.out, if_neg (by decide), if_pos h60, ps.out])
          have t60 : ((s[k].toNat : Int) == 60) = true := by simp; omega
          clear h60
          go_wp2
          go_roundw
          case rel => exact ⟨k + 1, fr, false, true, L, by omega, hf2, by omega, by go_num, rfl, rfl, rfl, by omega, hown, HN.out, hB⟩
          case measure => simp [intOf]; omega
        have t60 : ((s[k].toNat : Int) == 60) = false := by simp; omega
        have N60 := Lib.hid h60
        clear h60
        by_cases h62 : s[k].toNat = 62
        · have HN := Lib.hid (show parts (us s) sep = L ++ partsGo sep false false (piece s fr (k + 1)) ((us s).drop (k + 1)) by rw [HP.out, hd.out, hpg.out, if_neg N34.out, if_neg (by decide), if_neg N60.out, if_pos h62, ps.out])
          have t62 : ((s[k].toNat : Int) == 62) = true := by simp; omega
          clear h62
          go_wp2
          go_roundw
          case rel => exact ⟨k + 1, fr, false, false, L, by omega, hf2, by omega, by go_num, rfl, rfl, rfl, by omega, hown, HN.out, hB⟩
          case measure => simp [intOf]; omega
        have t62 : ((s[k].toNat : Int) == 62) = false := by simp; omega
        have N62 := Lib.hid h62
        clear h62
        by_cases hsp : s[k].toNat = sep.toNat ∧ a = false
        · obtain ⟨hs1, rfl⟩ := hsp
          have HN := Lib.hid (show parts (us s) sep = (L ++ [piece s fr k]) ++ partsGo sep false false (piece s (k + 1) (k + 1)) ((us s).drop (k + 1)) by rw [HP.out, hd.out, hpg.out, if_neg N34.out, if_neg (by decide), if_neg N60.out, if_neg N62.out, if_pos ⟨hs1, rfl⟩, p0.out]; simp)
          have tsp : ((s[k].toNat : Int) == (sep.toNat : Int)) = true := by simp; omega
          clear hs1
          go_wp2_with (at_builtin; refine wpList_appS1 (piece s fr k) (us_extract s fr k) rfl rfl Tryz.underlying30 infoS rfl rfl hown hB (Nat.le_refl _) ?_ ?_; (focus omega); intro v1 w1 ho1 hb1)
          go_roundw
          case rel => exact ⟨k + 1, k + 1, false, false, _, Nat.le_refl _, by omega, by omega, by go_num, by go_num, rfl, rfl, by simp; omega, ho1, HN.out, hb1⟩
          case measure => simp [intOf]; omega
        have HN := Lib.hid (show parts (us s) sep = L ++ partsGo sep false a (piece s fr (k + 1)) ((us s).drop (k + 1)) by rw [HP.out, hd.out, hpg.out, if_neg N34.out, if_neg (by decide), if_neg N60.out, if_neg N62.out, if_neg hsp, ps.out])
        have hsp' : (((s[k].toNat : Int) == (sep.toNat : Int)) = true ∧ a = true) ∨ ((s[k].toNat : Int) == (sep.toNat : Int)) = false := by
          cases a
          · right; simp; simp at hsp; omega
          · by_cases h : s[k].toNat = sep.toNat
            · left; exact ⟨by simp; omega, rfl⟩
            · right; simp; omega
        clear hsp
        rcases hsp' with ⟨tsp, rfl⟩ | tsp
        all_goals
          go_wp2
          go_roundw
          case rel => exact ⟨k + 1, fr, false, _, L, by omega, hf2, by omega, by go_num, rfl, rfl, rfl, by omega, hown, HN.out, hB⟩
          case measure => simp [intOf]; omega
    · have HN := Lib.hid (show parts (us s) sep = L ++ [(us s).drop fr] by rw [HP.out, drop_us_end s k (by omega), piece_end s fr k (by omega)]; simp [partsGo])
      go_wp2_with (at_builtin; refine wpList_appS1 ((us s).drop fr) (us_tail s fr) rfl rfl Tryz.underlying30 infoS rfl rfl hown hB (Nat.le_refl _) ?_ ?_; (focus omega); intro v1 w1 ho1 hb1)
      go_ret
      exact ⟨_, rfl, (ho1.cast HN.out.symm).read, hb1⟩
end

end Go.Proofs.YtipdiddjhimdcaaGreatDoor

namespace Go.Proofs.YtipdiddjhimdcaaGreatDoor

section
open Go.RowKit

theorem RStrs.form {w : World} {v : Value} {L : List (List UInt8)} (h : RStrs w v L) : ∃ ao cap, v = .slice ao L.length cap ∧ L.length ≤ maxLen ∧
    (0 < L.length → ∃ b off, ao = some ⟨b, off, none⟩ ∧ b < w.heap.size ∧ ∀ j (hj : j < L.length), w.cell? ⟨b, off + j, none⟩ = some (.string (bs L[j]))) := by
  rcases h.cases with ⟨⟨ao, cap, rfl⟩, rfl⟩ | ⟨b, off, cap, rfl, h2, h2', h3, h4⟩
  · exact ⟨ao, cap, rfl, Nat.zero_le _, fun h => by simp at h⟩
  · exact ⟨some ⟨b, off, none⟩, cap, rfl, Nat.le_trans h2 h2', fun _ => ⟨b, off, rfl, h3, h4⟩⟩
theorem lists_drop (L M : List (List UInt8)) (k : Nat) (h : k < L.length) (h' : k < M.length) :
    (L.drop k == M.drop k) = ((L[k] == M[k]) && (L.drop (k + 1) == M.drop (k + 1))) := by
  rw [List.drop_eq_getElem_cons h, List.drop_eq_getElem_cons h']; rfl

set_option maxHeartbeats 800000 in
theorem texts_c (v1 v2 : Value) (L M : List (List UInt8)) (w : World) (h1 : RStrs w v1 L) (h2 : RStrs w v2 M) :
    Calls Tryz.prog 44 #[v1, v2] w fun e w' => e = .returned (.bool (L == M)) ∧ Drn w w' := by
  obtain ⟨ao, cap, rfl, hm1, c1⟩ := h1.form
  obtain ⟨bo, cap', rfl, hm2, c2⟩ := h2.form
  have C1 := Lib.hid c1
  have C2 := Lib.hid c2
  clear c1 c2 h1 h2
  unfold maxLen at hm1 hm2
  by_cases hne : L.length = M.length
  · have hle1 : L.length ≤ M.length := by omega
    have hle2 : M.length ≤ L.length := by omega
    have hn : ((L.length : Int) != (M.length : Int)) = false := by simp [hne]
    have HE := Lib.hid hne
    clear hne
    go_enter Tryz.func44, Tryz.ntmps44
    go_wp2
    go_loopw [5] (fun i wr => ∃ k : Nat, k ≤ L.length ∧ i = .int .i64 k ∧ Drn w wr ∧ (L.drop k == M.drop k) = (L == M)) (fun i _ => L.length - (intOf i).toNat)
    case atStart => exact ⟨0, Nat.zero_le _, rfl, Drn.refl _, rfl⟩
    case round =>
      obtain ⟨k, hk, rfl, hD, hb⟩ := hrel
      have HB := Lib.hid hb; clear hb
      by_cases hlt : k < L.length
      · have hlt' : k < M.length := by omega
        obtain ⟨b, off, rfl, hb1, hc1⟩ := C1.out (by omega)
        obtain ⟨b', off', rfl, hb2, hc2⟩ := C2.out (by omega)
        have hd := Lib.hid (lists_drop L M k hlt hlt')
        have x1 : wr.cell? ⟨b, off + k, none⟩ = some (.string (bs L[k])) := by
          obtain ⟨n, rfl⟩ := hD; exact hc1 k hlt
        have x2 : wr.cell? ⟨b', off' + k, none⟩ = some (.string (bs M[k])) := by
          obtain ⟨n, rfl⟩ := hD; exact hc2 k hlt'
        have k0 : (0 : Int) ≤ (k : Int) := by omega
        have k1 : (k : Int) < (L.length : Int) := by omega
        have k2 : (k : Int) < (M.length : Int) := by omega
        clear hc1 hc2
        cases hq : (L[k] == M[k]) with
        | true =>
          have HQ := Lib.hid hq
          go_wp2
          go_quiet (fail)
          go_wp2
          go_roundw
          case rel => exact ⟨k + 1, by omega, by go_num, hD.step _, by rw [← HB.out, hd.out, HQ.out]; rfl⟩
          case measure => simp [intOf]; omega
        | false =>
          have HQ := Lib.hid hq
          go_wp2
          go_quiet (fail)
          go_wp2
          go_ret
          exact ⟨ret_bool (by rw [← HB.out, hd.out, HQ.out]; rfl), hD.step _⟩
      · go_wp2
        go_ret
        refine ⟨ret_bool ?_, hD⟩
        rw [← HB.out, List.drop_eq_nil_iff.2 (by omega), List.drop_eq_nil_iff.2 (by omega)]; rfl
  · have hn : ((L.length : Int) != (M.length : Int)) = true := by simp; omega
    have HN := Lib.hid (show (L == M) = false by
      rw [beq_eq_false_iff_ne]; intro e; exact hne (congrArg List.length e))
    clear hne
    go_enter Tryz.func44, Tryz.ntmps44
    go_wp2
    go_ret
    exact ⟨ret_bool HN.out.symm, Drn.refl _⟩

theorem strCells_us (s : ByteArray) : Lib.strCells s = (us s).map bv := by
  simp [Lib.strCells, us, bv]
/-- append of a string to a byte buffer -/
theorem wpList_appStr {P : Program} {ops : Array Oper} {rest : List Oper} {o : Oper} {a : Act} {Q : Exit → Act → World → Prop} {wE w : World} {base : Nat} {e t u : TypeId} {v : Value} {l : List UInt8} {s x : Operand} {S : ByteArray} (m : List UInt8) (hS : us S = m)
    (hgd : o.guard = none) (ho : o.op = .call { callee := .builtin .append, args := #[s, x], argTypes := #[t, u] })
    (ht : P.underlying t = some (.slice e)) (hu : P.underlying u = some .string) (hi : infoIs P e (.int .u8 0) 1 1)
    (hx : a.eval x = .string S) (hs : a.eval s = v) (hown : Byt w base e v l) (hB : Below base wE w) (hbase : base ≤ wE.heap.size)
    (hbd : l.length + m.length ≤ 140737488355328)
    (h : ∀ v' w', Byt w' base e v' (l ++ m) → Below base wE w' → wpList P ops Q rest (a.put o.dst v') w') :
    wpList P ops Q (o :: rest) a w := by
  subst hS
  obtain ⟨i, hi0, hi1, hi2, hi3⟩ := info_parts hi
  have hz := hB.size
  rw [length_us] at hbd
  refine Lib.wpList_append_own_string _ hgd s x t u ho base e i ht hu hi0 hi1 hi2 hi3 v l.length (l.map bv) hs hown S hx (by simp only [maxLen]; omega) hbd (by omega) ?_
  intro v' w' h1 hg _
  refine h v' w' ?_ (hB.grown hg (by omega) fun k hk => ((World.ownsRow.lt hown) k hk).1)
  unfold Byt
  rw [strCells_us] at h1
  simpa [length_us] using h1

theorem glue_snoc (sep : List UInt8) (L : List (List UInt8)) (x : List UInt8) (h : L ≠ []) : glue sep (L ++ [x]) = glue sep L ++ (sep ++ x) := by
  induction L with
  | nil => exact absurd rfl h
  | cons y r ih =>
    cases r with
    | nil => simp [glue]
    | cons z r' =>
      have := ih (by simp)
      simp only [List.cons_append] at this ⊢
      rw [glue, this, glue]
      simp
theorem take_snoc (L : List (List UInt8)) (k : Nat) (h : k < L.length) : L.take (k + 1) = L.take k ++ [L[k]] := List.take_succ_eq_append_getElem h
theorem glue_step (sep : List UInt8) (L : List (List UInt8)) (k : Nat) (h : k < L.length) (h0 : 0 < k) : glue sep (L.take (k + 1)) = (glue sep (L.take k) ++ sep) ++ L[k] := by
  rw [take_snoc L k h, glue_snoc sep _ _ (by intro e; have := congrArg List.length e; rw [List.length_take, List.length_nil] at this; omega)]
  simp
theorem glue_first (sep : List UInt8) (L : List (List UInt8)) (h : 0 < L.length) : glue sep (L.take 1) = L[0] := by
  rw [take_snoc L 0 h]; rfl
theorem glue_le (sep : List UInt8) (L : List (List UInt8)) (k : Nat) : (glue sep (L.take k)).length ≤ (glue sep L).length := by
  rcases Nat.lt_or_ge k L.length with h | h
  · have : ∀ d, k + d ≤ L.length → (glue sep (L.take k)).length ≤ (glue sep (L.take (k + d))).length := by
      intro d
      induction d with
      | zero => intro _; exact Nat.le_refl _
      | succ d ih =>
        intro hd
        refine Nat.le_trans (ih (by omega)) ?_
        rw [show k + (d + 1) = (k + d) + 1 from by omega]
        rcases Nat.eq_zero_or_pos (k + d) with h0 | h0
        · rw [h0]; simp [glue]
        · rw [glue_step sep L (k + d) (by omega) h0]; simp
    have := this (L.length - k) (by omega)
    rwa [show k + (L.length - k) = L.length from by omega, List.take_length] at this
  · rw [List.take_of_length_le h]; exact Nat.le_refl _

set_option maxHeartbeats 1600000 in
theorem glue_c (v : Value) (L : List (List UInt8)) (s : ByteArray) (w : World) (h1 : RStrs w v L) (hbd : (glue (us s) L).length ≤ 140737488355328) :
    Calls Tryz.prog 173 #[v, .string s] w fun e w' => e = .returned (.string (bs (glue (us s) L))) ∧ Below w.heap.size w w' := by
  obtain ⟨ao, cap, rfl, hm1, c1⟩ := h1.form
  have C1 := Lib.hid c1
  have HBD := Lib.hid hbd
  clear c1 h1 hbd
  unfold maxLen at hm1
  go_enter Tryz.func173, Tryz.ntmps173
  go_wp2
  go_loopw [5, 6] (fun v i wr => ∃ k : Nat, k ≤ L.length ∧ i = .int .i64 k ∧ Byt wr w.heap.size 5 v (glue (us s) (L.take k)) ∧ Below w.heap.size w wr) (fun _ i _ => L.length - (intOf i).toNat)
  case atStart => exact ⟨0, Nat.zero_le _, rfl, Byt.nil _ _ _, Below.refl _ _⟩
  case round =>
    obtain ⟨k, hk, rfl, hown, hB⟩ := hrel
    by_cases hlt : k < L.length
    · obtain ⟨b, off, rfl, hb1, hc1⟩ := C1.out (by omega)
      have x1 : wr.cell? ⟨b, off + k, none⟩ = some (.string (bs L[k])) := by
        rw [hB.cell (p := ⟨b, off + k, none⟩) hb1]; exact hc1 k hlt
      clear hc1
      have hle := Lib.hid (Nat.le_trans (glue_le (us s) L (k + 1)) HBD.out)
      by_cases h0 : 0 < k
      · have hg := Lib.hid (glue_step (us s) L k hlt h0)
        go_wp2_with (first | (at_builtin; refine wpList_appStr (us s) rfl rfl rfl Tryz.underlying140 Tryz.underlying9 infoB rfl rfl hown hB (Nat.le_refl _) ?_ ?_; (focus (have := hle.out; rw [hg.out, List.length_append, List.length_append] at this; omega)); intro v1 w1 ho1 hb1; have x1' := (hb1.cell (p := ⟨b, off + k, none⟩) (by assumption)).trans ((hB.cell (p := ⟨b, off + k, none⟩) (by assumption)).symm.trans x1)) | (at_builtin; refine wpList_appStr L[k] (us_bs _) rfl rfl Tryz.underlying140 Tryz.underlying9 infoB rfl rfl ho1 hb1 (Nat.le_refl _) ?_ ?_; (focus (have := hle.out; rw [hg.out, List.length_append] at this; omega)); intro v2 w2 ho2 hb2))
        go_roundw
        case rel => exact ⟨k + 1, by omega, by go_num, ho2.cast hg.out.symm, hb2⟩
        case measure => simp [intOf]; omega
      · obtain rfl : k = 0 := by omega
        rw [Nat.add_zero] at x1
        have hg := Lib.hid (glue_first (us s) L hlt)
        go_wp2_with (at_builtin; refine wpList_appStr L[0] (us_bs _) rfl rfl Tryz.underlying140 Tryz.underlying9 infoB rfl rfl hown hB (Nat.le_refl _) ?_ ?_; (focus (have := hle.out; rw [hg.out] at this; simpa [glue] using this)); intro v2 w2 ho2 hb2)
        go_roundw
        case rel => exact ⟨1, by omega, rfl, ho2.cast (by rw [hg.out]; rfl), hb2⟩
        case measure => simp [intOf]; omega
    · have hg := Lib.hid (show L.take k = L from List.take_of_length_le (by omega))
      go_wp2_with (refine wpList_str rfl rfl Tryz.underlying140 Tryz.underlying5 Tryz.underlying9 rfl hown ?_)
      go_ret
      exact ⟨ret_bs (by rw [us_bs]; first | rfl | rw [hg.out]), hB⟩
end

section
open Go.RowKit

theorem digits_neg (n : Int) (h : n < 0) : digits n = [] := by unfold digits; rw [if_pos h]

theorem dig_toNat (n : Nat) (h : n < 10) : (dig n).toNat = 48 + n := by
  have := (by decide : ∀ n : Fin 10, (dig n.val).toNat = 48 + n.val)
  exact this ⟨n, h⟩
theorem digF_small (p m : Nat) (h : m < 10) (hp : 1 ≤ p) : digF p m = [dig m] := by
  obtain ⟨q, rfl⟩ : ∃ q, p = q + 1 := ⟨p - 1, by omega⟩
  simp only [digF, if_pos h]
theorem digF_big (p m : Nat) (h : 10 ≤ m) (hp : 1 ≤ p) : digF p m = digF (p - 1) (m / 10) ++ [dig (m % 10)] := by
  obtain ⟨q, rfl⟩ : ∃ q, p = q + 1 := ⟨p - 1, by omega⟩
  rw [digF, if_neg (by omega)]; rfl
theorem pow_big (p m : Nat) (h : 10 ≤ m) (hm : m < 10 ^ p) : 2 ≤ p ∧ m / 10 < 10 ^ (p - 1) := by
  match p, hm with
  | 0, hm => simp at hm; omega
  | 1, hm => simp at hm; omega
  | q + 2, hm => exact ⟨by omega, Nat.div_lt_of_lt_mul (by rw [Nat.mul_comm]; exact hm)⟩

/-- an array of twenty bytes of the call's own: from p on it holds ds -/
def arrAt (w : World) (e : TypeId) (g p : Nat) (ds : List UInt8) : Prop :=
  ∃ cur : Array Value, w.heap[g]? = some (.cells cur e (0, 0)) ∧ cur.size = 20 ∧ p ≤ 20 ∧ ds.length = 20 - p ∧ cur.toList.drop p = ds.map bv
theorem arrAt.cell {w : World} {e : TypeId} {g p : Nat} {ds : List UInt8} (h : arrAt w e g p ds) (j : Nat) (hj : j < ds.length) : w.cell? ⟨g, p + j, none⟩ = some (bv ds[j]) := by
  obtain ⟨cur, hg, h1, h2, h3, h4⟩ := h
  have e1 : cur[p + j]? = some (bv ds[j]) := by
    rw [← Array.getElem?_toList, ← List.getElem?_drop, h4]; simp [hj]
  simp [World.cell?, hg, e1]
theorem arrAt.some {w : World} {e : TypeId} {g p : Nat} {ds : List UInt8} (h : arrAt w e g p ds) (j : Nat) (hj : j < 20) : (∃ v, w.cell? ⟨g, j, none⟩ = some v) ∧ w.frozen? ⟨g, j, none⟩ = false := by
  obtain ⟨cur, hg, h1, h2, h3, h4⟩ := h
  refine ⟨⟨cur[j]'(by omega), by simp [World.cell?, hg, h1, hj]⟩, by simp [World.frozen?, hg]⟩
theorem arrAt.set {w : World} {e : TypeId} {g p : Nat} {ds : List UInt8} (h : arrAt w e g p ds) (hp : 1 ≤ p) (c : UInt8) : arrAt (w.setCell ⟨g, p - 1, none⟩ (bv c)) e g (p - 1) (c :: ds) := by
  obtain ⟨cur, hg, h1, h2, h3, h4⟩ := h
  refine ⟨cur.setIfInBounds (p - 1) (bv c), ?_, by simp [h1], by omega, by simp; omega, ?_⟩
  · simp only [World.setCell, Array.getElem?_modify, hg]; simp
  · have hl : p - 1 < cur.toList.length := by rw [Array.length_toList]; omega
    rw [Array.toList_setIfInBounds, List.drop_set, if_neg (Nat.lt_irrefl _), Nat.sub_self, List.drop_eq_getElem_cons hl, List.set_cons_zero, show p - 1 + 1 = p from by omega, h4]
    rfl

theorem run_slice_arr {P : Program} {t e : TypeId} {z : Value} {b : Nat} (ht : P.underlying t = some (.array 20 e)) (hi : infoIs P e z 1 b) (g p : Nat) (hp : p < 20) (w : World) :
    (Instr.sliceAt t (.pointer (some ⟨g, 0, none⟩)) (some (.int .i64 (p : Int))) none none).run P w = .ok (.slice (some ⟨g, p, none⟩) (20 - p) (20 - p)) w := by
  obtain ⟨i, hi0, hi1, hi2, hi3⟩ := info_parts hi
  have h1 : ¬ (20 = p) := by omega
  have h2 : (p : Int) ≤ 20 := by omega
  have h3 : (⟨g, 0, none⟩ : Addr).add p = ⟨g, p, none⟩ := by unfold Addr.add; split <;> simp_all
  simp [Instr.sliceAt, Instr.sureAddr, Instr.sliceBounds, Instr.sliceBound, run_underlying ht, asIntOf, sizeOf, typeInfo, hi0, hi2, Sem.run_bind, Result.andThen]
  rw [if_pos (by omega)]
  simp only [if_neg h1, h3]

set_option maxHeartbeats 1600000 in
theorem digits_c (n : Int) (h0 : -9223372036854775808 ≤ n) (h1 : n ≤ 9223372036854775807) (w : World) :
    Calls Tryz.prog 83 #[.int .i64 n] w fun e w' => e = .returned (.string (bs (digits n))) ∧ Below w.heap.size w w' := by
  by_cases h : n < 0
  · have HN := Lib.hid (digits_neg n h)
    go_enter Tryz.func83, Tryz.ntmps83
    go_wp2
    go_ret
    exact ⟨by rw [HN.out]; rfl, Below.refl _ _⟩
  · obtain ⟨k, rfl⟩ : ∃ k : Nat, n = (k : Int) := ⟨n.toNat, by omega⟩
    have hk : k ≤ 9223372036854775807 := by omega
    clear h h0 h1
    go_enter Tryz.func83, Tryz.ntmps83
    go_wp2
    go_loopw [0, 4, 5] (fun v i b wr => ∃ (m p : Nat) (ds : List UInt8) (ok : Bool), v = .int .i64 m ∧ i = .int .i64 p ∧ b = .bool ok ∧ m ≤ k ∧ p ≤ 20 ∧ arrAt wr 188 w.heap.size p ds ∧ (ok = true → digF p m ++ ds = digits k ∧ m < 10 ^ p ∧ 1 ≤ p) ∧ (ok = false → ds = digits k ∧ p < 20) ∧ Below w.heap.size w wr) (fun _ i b _ => 2 * (intOf i).toNat + (if b matches .bool true then 1 else 0))
    case atStart =>
      refine ⟨k, 20, [], true, rfl, rfl, rfl, Nat.le_refl _, Nat.le_refl _, ⟨_, heap_alloc_new w _, rfl, Nat.le_refl _, rfl, rfl⟩, fun _ => ⟨?_, by omega, by omega⟩, (fun h => by cases h), (Below.refl _ _).alloc (Nat.le_refl _) _⟩
      unfold digits; rw [if_neg (by omega), List.append_nil, Int.toNat_natCast]
    case round =>
      obtain ⟨m, p, ds, ok, rfl, rfl, rfl, hmk, hp, ha, ht, hf, hB⟩ := hrel
      cases ok with
      | true =>
        obtain ⟨hd, hm, hp1⟩ := ht rfl
        have HD := Lib.hid hd
        have HM := Lib.hid hm
        obtain ⟨⟨x, hx⟩, hfr⟩ := ha.some (p - 1) (by omega)
        have HA := Lib.hid (ha.set hp1 (dig (m % 10)))
        have hdg := Lib.hid (dig_toNat (m % 10) (by omega))
        clear hd hm ht hf ha
        have hv : bv (dig (m % 10)) = Value.int .u8 (48 + (m : Int) % 10) := by unfold bv; rw [hdg.out]; simp
        have HV := Lib.hid hv
        clear hv
        by_cases hs : m < 10
        · have HE := Lib.hid (show dig m :: ds = digits k by rw [← HD.out, digF_small p m hs hp1]; rfl)
          have HMOD := Lib.hid (show m % 10 = m from Nat.mod_eq_of_lt hs)
          have q1 : decide ((0 : Int) < (m : Int) / 10) = false := by simp; omega
          go_wp2
          go_roundw
          case rel => exact ⟨m / 10, p - 1, _, false, by simp, by simp; omega, rfl, by omega, by omega, HV.out ▸ HA.out, (fun h => by cases h), fun _ => ⟨by rw [← HE.out, HMOD.out], by omega⟩, hB.setCell (Nat.le_refl _) _⟩
          case measure => simp [intOf]; omega
        · have hb := pow_big p m (by omega) HM.out
          have HP := Lib.hid hb.2
          have hp2 := hb.1
          have HE := Lib.hid (show digF (p - 1) (m / 10) ++ (dig (m % 10) :: ds) = digits k by rw [← HD.out, digF_big p m (by omega) hp1]; simp)
          have q1 : decide ((0 : Int) < (m : Int) / 10) = true := by simp; omega
          clear hb
          go_wp2
          go_roundw
          case rel => exact ⟨m / 10, p - 1, _, true, by simp, by simp; omega, rfl, by omega, by omega, HV.out ▸ HA.out, fun _ => ⟨HE.out, HP.out, by omega⟩, (fun h => by cases h), hB.setCell (Nat.le_refl _) _⟩
          case measure => simp [intOf]; omega
      | false =>
        obtain ⟨hd, hp2⟩ := hf rfl
        have HA := Lib.hid ha
        have hl : ds.length = 20 - p := by obtain ⟨_, _, _, _, h, _⟩ := ha; exact h
        subst hd
        clear ht hf ha
        have HL := Lib.hid hl
        clear hl
        have hsl := fun wx => run_slice_arr (P := Tryz.prog) Tryz.underlying188 infoB w.heap.size p hp2 wx
        go_wp2_with (refine wpList_strAt (l := digits k) rfl rfl Tryz.underlying140 Tryz.underlying5 Tryz.underlying9 rfl HL.out ?_ ?_; (focus (intro j hj; exact HA.out.cell j hj)))
        go_ret
        exact ⟨rfl, hB⟩
end

section
open Go.RowKit

theorem pg_esc2 (sep : UInt8) (a : Bool) (cur : List UInt8) (s : ByteArray) (k : Nat) (h : k + 1 < s.size) (hc : s[k].toNat = 92) :
    partsGo sep true a cur ((us s).drop k) = partsGo sep true a ((cur ++ [s[k]]) ++ [s[k + 1]]) ((us s).drop (k + 2)) := by
  rw [drop_us s k (by omega), drop_us s (k + 1) h]; simp [partsGo, hc]
theorem pg_esc1 (sep : UInt8) (a : Bool) (cur : List UInt8) (s : ByteArray) (k : Nat) (h : k < s.size) (h1 : ¬ k + 1 < s.size) (hc : s[k].toNat = 92) :
    partsGo sep true a cur ((us s).drop k) = partsGo sep true a (cur ++ [s[k]]) ((us s).drop (k + 1)) := by
  rw [drop_us s k h, drop_us_end s (k + 1) (by omega)]; simp [partsGo, hc]

set_option maxRecDepth 100000 in
set_option maxHeartbeats 6400000 in
theorem partsR_c (s : ByteArray) (hs : s.size ≤ 4294967280) (sep : UInt8) (w : World) :
    Calls Tryz.prog 133 #[.string s, .int .u8 sep.toNat] w fun e w' => ∃ v, e = .returned v ∧ RStrs w' v (parts (us s) sep) ∧ Below w.heap.size w w' := by
  go_enter Tryz.func133, Tryz.ntmps133
  go_wp2
  go_loopw [5, 6, 7, 8, 9] (fun v vb qq aa i wr => ∃ (k : Nat) (q a : Bool) (cur : List UInt8) (L : List (List UInt8)), k ≤ s.size ∧ i = .int .i64 k ∧ qq = .bool q ∧ aa = .bool a ∧ L.length ≤ k ∧ cur.length ≤ k ∧ Strs wr w.heap.size 9 v L ∧ Byt wr w.heap.size 5 vb cur ∧ parts (us s) sep = L ++ partsGo sep q a cur ((us s).drop k) ∧ Below w.heap.size w wr) (fun _ _ _ _ i _ => s.size - (intOf i).toNat)
  case atStart => exact ⟨0, false, false, [], [], Nat.zero_le _, rfl, rfl, rfl, Nat.le_refl _, Nat.le_refl _, Strs.nil _ _ _, Byt.nil _ _ _, rfl, Below.refl _ _⟩
  case round =>
    obtain ⟨k, q, a, cur, L, hk, rfl, rfl, rfl, hl, hcl, hown, hownB, hp, hB⟩ := hrel
    have HP := Lib.hid hp; clear hp
    by_cases hlt : k < s.size
    · have hd := Lib.hid (drop_us s k hlt)
      by_cases hA : q = true ∧ s[k].toNat = 92
      · obtain ⟨rfl, h92⟩ := hA
        have t92 : ((s[k].toNat : Int) == 92) = true := by simp; omega
        by_cases hk1 : k + 1 < s.size
        · have HN := Lib.hid (show parts (us s) sep = L ++ partsGo sep true a ((cur ++ [s[k]]) ++ [s[k + 1]]) ((us s).drop (k + 2)) by rw [HP.out, pg_esc2 sep a _ s k hk1 h92])
          clear h92
          go_wp2_with (first | (at_builtin; refine wpList_appK_B s[k] rfl rfl rfl Tryz.underlying140 infoB rfl rfl hownB hB (Nat.le_refl _) ?_ ?_; (focus omega); intro v1 w1 ho1 hb1 hk1') | (at_builtin; refine wpList_appK_B s[k + 1] rfl rfl rfl Tryz.underlying140 infoB rfl rfl ho1 hb1 (Nat.le_refl _) ?_ ?_; (focus (rw [List.length_append]; simp; omega)); intro v2 w2 ho2 hb2 hk2'))
          go_roundw
          case rel => exact ⟨k + 2, true, a, _, L, by omega, by go_num, rfl, rfl, by omega, by simp; omega, (hown.kept hk1' (by decide)).kept hk2' (by decide), ho2, HN.out, hb2⟩
          case measure => simp [intOf]; omega
        · have HN := Lib.hid (show parts (us s) sep = L ++ partsGo sep true a (cur ++ [s[k]]) ((us s).drop (k + 1)) by rw [HP.out, pg_esc1 sep a _ s k hlt hk1 h92])
          clear h92
          go_wp2_with (at_builtin; refine wpList_appK_B s[k] rfl rfl rfl Tryz.underlying140 infoB rfl rfl hownB hB (Nat.le_refl _) ?_ ?_; (focus omega); intro v1 w1 ho1 hb1 hk1')
          go_roundw
          case rel => exact ⟨k + 1, true, a, _, L, by omega, by go_num, rfl, rfl, by omega, by simp; omega, hown.kept hk1' (by decide), ho1, HN.out, hb1⟩
          case measure => simp [intOf]; omega
      have hpg := Lib.hid (pg_cons sep q a cur s[k] ((us s).drop (k + 1)) hA)
      by_cases h34 : s[k].toNat = 34
      · have HN := Lib.hid (show parts (us s) sep = L ++ partsGo sep (!q) a (cur ++ [s[k]]) ((us s).drop (k + 1)) by rw [HP.out, hd.out, hpg.out, if_pos h34])
        have t92 : ((s[k].toNat : Int) == 92) = false := by simp; omega
        have t34 : ((s[k].toNat : Int) == 34) = true := by simp; omega
        have u34 : ((s[k].toNat : Int) != 34) = false := by simp; omega
        have t60 : ((s[k].toNat : Int) == 60) = false := by simp; omega
        have t62 : ((s[k].toNat : Int) == 62) = false := by simp; omega
        clear h34 hA
        cases q <;> cases a <;> cases tsep : ((s[k].toNat : Int) == (sep.toNat : Int))
        all_goals
          go_wp2_with (at_builtin; refine wpList_appK_B s[k] rfl rfl rfl Tryz.underlying140 infoB rfl rfl hownB hB (Nat.le_refl _) ?_ ?_; (focus omega); intro v1 w1 ho1 hb1 hk1')
          go_roundw
          case rel => exact ⟨k + 1, _, _, _, L, by omega, by go_num, rfl, rfl, by omega, by simp; omega, hown.kept hk1' (by decide), ho1, HN.out, hb1⟩
          case measure => simp [intOf]; omega
      have t34 : ((s[k].toNat : Int) == 34) = false := by simp; omega
      have u34 : ((s[k].toNat : Int) != 34) = true := by simp; omega
      have N34 := Lib.hid h34
      clear h34
      cases q with
      | true =>
        have t92 : ((s[k].toNat : Int) == 92) = false := by simp; simp at hA; omega
        clear hA
        have HN := Lib.hid (show parts (us s) sep = L ++ partsGo sep true a (cur ++ [s[k]]) ((us s).drop (k + 1)) by rw [HP.out, hd.out, hpg.out, if_neg N34.out, if_pos rfl])
        go_wp2_with (at_builtin; refine wpList_appK_B s[k] rfl rfl rfl Tryz.underlying140 infoB rfl rfl hownB hB (Nat.le_refl _) ?_ ?_; (focus omega); intro v1 w1 ho1 hb1 hk1')
        go_roundw
        case rel => exact ⟨k + 1, _, _, _, L, by omega, by go_num, rfl, rfl, by omega, by simp; omega, hown.kept hk1' (by decide), ho1, HN.out, hb1⟩
        case measure => simp [intOf]; omega
      | false =>
        clear hA
        by_cases h60 : s[k].toNat = 60
        · have HN := Lib.hid (show parts (us s) sep = L ++ partsGo sep false true (cur ++ [s[k]]) ((us s).drop (k + 1)) by rw [HP.out, hd.out, hpg.out, if_neg N34.out, if_neg (by decide), if_pos h60])
          have t60 : ((s[k].toNat : Int) == 60) = true := by simp; omega
          have u60 : ((s[k].toNat : Int) != 60) = false := by simp; omega
          have t62 : ((s[k].toNat : Int) == 62) = false := by simp; omega
          clear h60
          cases a <;> cases tsep : ((s[k].toNat : Int) == (sep.toNat : Int))
          all_goals
            go_wp2_with (at_builtin; refine wpList_appK_B s[k] rfl rfl rfl Tryz.underlying140 infoB rfl rfl hownB hB (Nat.le_refl _) ?_ ?_; (focus omega); intro v1 w1 ho1 hb1 hk1')
            go_roundw
            case rel => exact ⟨k + 1, _, _, _, L, by omega, by go_num, rfl, rfl, by omega, by simp; omega, hown.kept hk1' (by decide), ho1, HN.out, hb1⟩
            case measure => simp [intOf]; omega
        have t60 : ((s[k].toNat : Int) == 60) = false := by simp; omega
        have u60 : ((s[k].toNat : Int) != 60) = true := by simp; omega
        have N60 := Lib.hid h60
        clear h60
        by_cases h62 : s[k].toNat = 62
        · have HN := Lib.hid (show parts (us s) sep = L ++ partsGo sep false false (cur ++ [s[k]]) ((us s).drop (k + 1)) by rw [HP.out, hd.out, hpg.out, if_neg N34.out, if_neg (by decide), if_neg N60.out, if_pos h62])
          have t62 : ((s[k].toNat : Int) == 62) = true := by simp; omega
          have u62 : ((s[k].toNat : Int) != 62) = false := by simp; omega
          clear h62
          cases a <;> cases tsep : ((s[k].toNat : Int) == (sep.toNat : Int))
          all_goals
            go_wp2_with (at_builtin; refine wpList_appK_B s[k] rfl rfl rfl Tryz.underlying140 infoB rfl rfl hownB hB (Nat.le_refl _) ?_ ?_; (focus omega); intro v1 w1 ho1 hb1 hk1')
            go_roundw
            case rel => exact ⟨k + 1, _, _, _, L, by omega, by go_num, rfl, rfl, by omega, by simp; omega, hown.kept hk1' (by decide), ho1, HN.out, hb1⟩
            case measure => simp [intOf]; omega
        have t62 : ((s[k].toNat : Int) == 62) = false := by simp; omega
        have u62 : ((s[k].toNat : Int) != 62) = true := by simp; omega
        have N62 := Lib.hid h62
        clear h62
        by_cases hsp : s[k].toNat = sep.toNat ∧ a = false
        · obtain ⟨hs1, rfl⟩ := hsp
          have HN := Lib.hid (show parts (us s) sep = (L ++ [cur]) ++ partsGo sep false false [] ((us s).drop (k + 1)) by rw [HP.out, hd.out, hpg.out, if_neg N34.out, if_neg (by decide), if_neg N60.out, if_neg N62.out, if_pos ⟨hs1, rfl⟩]; simp)
          have tsp : ((s[k].toNat : Int) == (sep.toNat : Int)) = true := by simp; omega
          clear hs1
          go_wp2_with (first | (refine wpList_str rfl rfl Tryz.underlying140 Tryz.underlying5 Tryz.underlying9 rfl hownB ?_) | (at_builtin; refine wpList_appK_S cur (us_bs _) rfl rfl Tryz.underlying30 infoS rfl rfl hown hB (Nat.le_refl _) ?_ ?_; (focus omega); intro v1 w1 ho1 hb1 hk1'))
          go_roundw
          case rel => exact ⟨k + 1, false, false, [], _, by omega, by go_num, rfl, rfl, by simp; omega, by simp, ho1, Byt.nil _ _ _, HN.out, hb1⟩
          case measure => simp [intOf]; omega
        have HN := Lib.hid (show parts (us s) sep = L ++ partsGo sep false a (cur ++ [s[k]]) ((us s).drop (k + 1)) by rw [HP.out, hd.out, hpg.out, if_neg N34.out, if_neg (by decide), if_neg N60.out, if_neg N62.out, if_neg hsp])
        have hsp' : (((s[k].toNat : Int) == (sep.toNat : Int)) = true ∧ a = true) ∨ ((s[k].toNat : Int) == (sep.toNat : Int)) = false := by
          cases a
          · right; simp; simp at hsp; omega
          · by_cases h : s[k].toNat = sep.toNat
            · left; exact ⟨by simp; omega, rfl⟩
            · right; simp; omega
        clear hsp
        rcases hsp' with ⟨tsp, rfl⟩ | tsp
        · skip
          go_wp2_with (at_builtin; refine wpList_appK_B s[k] rfl rfl rfl Tryz.underlying140 infoB rfl rfl hownB hB (Nat.le_refl _) ?_ ?_; (focus omega); intro v1 w1 ho1 hb1 hk1')
          go_roundw
          case rel => exact ⟨k + 1, _, _, _, L, by omega, by go_num, rfl, rfl, by omega, by simp; omega, hown.kept hk1' (by decide), ho1, HN.out, hb1⟩
          case measure => simp [intOf]; omega
        · cases a
          all_goals
            go_wp2_with (at_builtin; refine wpList_appK_B s[k] rfl rfl rfl Tryz.underlying140 infoB rfl rfl hownB hB (Nat.le_refl _) ?_ ?_; (focus omega); intro v1 w1 ho1 hb1 hk1')
            go_roundw
            case rel => exact ⟨k + 1, _, _, _, L, by omega, by go_num, rfl, rfl, by omega, by simp; omega, hown.kept hk1' (by decide), ho1, HN.out, hb1⟩
            case measure => simp [intOf]; omega
    · have HN := Lib.hid (show parts (us s) sep = L ++ [cur] by rw [HP.out, drop_us_end s k (by omega)]; simp [partsGo])
      go_wp2_with (first | (refine wpList_str rfl rfl Tryz.underlying140 Tryz.underlying5 Tryz.underlying9 rfl hownB ?_) | (at_builtin; refine wpList_appK_S cur (us_bs _) rfl rfl Tryz.underlying30 infoS rfl rfl hown hB (Nat.le_refl _) ?_ ?_; (focus omega); intro v1 w1 ho1 hb1 hk1'))
      go_ret
      exact ⟨_, rfl, (ho1.cast HN.out.symm).read, hb1⟩
end

section
theorem pgo_esc (sep : UInt8) (a : Bool) (cur : List UInt8) (c : UInt8) (r : List UInt8) (hc : c.toNat = 92) :
    partsGo sep true a cur (c :: r) = match r with | [] => [cur ++ [c]] | d :: r' => partsGo sep true a (cur ++ [c, d]) r' := by
  rw [partsGo.eq_def]; simp only [hc, and_self, if_true]
  cases r <;> rfl
theorem pgo_cons (sep : UInt8) (q a : Bool) (cur : List UInt8) (c : UInt8) (r : List UInt8) (h : ¬ (q = true ∧ c.toNat = 92)) :
    partsGo sep q a cur (c :: r) = if c.toNat = 34 then partsGo sep (!q) a (cur ++ [c]) r
    else if q = true then partsGo sep q a (cur ++ [c]) r
    else if c.toNat = 60 then partsGo sep q true (cur ++ [c]) r
    else if c.toNat = 62 then partsGo sep q false (cur ++ [c]) r
    else if c.toNat = sep.toNat ∧ a = false then cur :: partsGo sep q a [] r
    else partsGo sep q a (cur ++ [c]) r := by
  rw [partsGo.eq_def]; simp only [if_neg h]
theorem partsGo_ne' (sep : UInt8) : ∀ (n : Nat) (l : List UInt8) (q a : Bool) (cur : List UInt8), l.length ≤ n → partsGo sep q a cur l ≠ []
  | _, [], q, a, cur, _ => by simp [partsGo]
  | 0, c :: r, q, a, cur, h => by simp at h
  | n + 1, c :: r, q, a, cur, h => by
    have hr : r.length ≤ n := by simpa using h
    by_cases hA : q = true ∧ c.toNat = 92
    · obtain ⟨rfl, h92⟩ := hA
      rw [pgo_esc sep a cur c r h92]
      cases r with
      | nil => simp
      | cons d r' => exact partsGo_ne' sep n r' _ _ _ (by simp at hr; omega)
    · rw [pgo_cons sep q a cur c r hA]
      repeat' split
      all_goals first | exact partsGo_ne' sep n r _ _ _ hr | simp
theorem partsGo_ne (sep : UInt8) (l : List UInt8) (q a : Bool) (cur : List UInt8) : partsGo sep q a cur l ≠ [] := partsGo_ne' sep l.length l q a cur (Nat.le_refl _)
theorem glue_cons (sep x : List UInt8) (l : List (List UInt8)) (h : l ≠ []) : glue sep (x :: l) = x ++ (sep ++ glue sep l) := by
  cases l with
  | nil => exact absurd rfl h
  | cons y r => rfl
theorem glue_parts' (sep : UInt8) : ∀ (n : Nat) (l : List UInt8) (q a : Bool) (cur : List UInt8), l.length ≤ n → glue [sep] (partsGo sep q a cur l) = cur ++ l
  | _, [], q, a, cur, _ => by simp [partsGo, glue]
  | 0, c :: r, q, a, cur, h => by simp at h
  | n + 1, c :: r, q, a, cur, h => by
    have hr : r.length ≤ n := by simpa using h
    by_cases hA : q = true ∧ c.toNat = 92
    · obtain ⟨rfl, h92⟩ := hA
      rw [pgo_esc sep a cur c r h92]
      cases r with
      | nil => simp [glue]
      | cons d r' => show glue [sep] (partsGo sep true a (cur ++ [c, d]) r') = _; rw [glue_parts' sep n r' _ _ _ (by simp at hr; omega)]; simp
    · rw [pgo_cons sep q a cur c r hA]
      by_cases h1 : c.toNat = 34
      · rw [if_pos h1, glue_parts' sep n r _ _ _ hr]; simp
      by_cases h2 : q = true
      · rw [if_neg h1, if_pos h2, glue_parts' sep n r _ _ _ hr]; simp
      by_cases h3 : c.toNat = 60
      · rw [if_neg h1, if_neg h2, if_pos h3, glue_parts' sep n r _ _ _ hr]; simp
      by_cases h4 : c.toNat = 62
      · rw [if_neg h1, if_neg h2, if_neg h3, if_pos h4, glue_parts' sep n r _ _ _ hr]; simp
      by_cases h5 : c.toNat = sep.toNat ∧ a = false
      · rw [if_neg h1, if_neg h2, if_neg h3, if_neg h4, if_pos h5, glue_cons _ _ _ (partsGo_ne sep _ _ _ _), glue_parts' sep n r _ _ _ hr]
        have : c = sep := UInt8.toNat_inj.1 h5.1
        rw [this]; simp
      · rw [if_neg h1, if_neg h2, if_neg h3, if_neg h4, if_neg h5, glue_parts' sep n r _ _ _ hr]; simp
theorem glue_parts (sep : UInt8) (l : List UInt8) : glue [sep] (parts l sep) = l := glue_parts' sep l.length l false false [] (Nat.le_refl _)

theorem trim_le (l : List UInt8) : (trim l).length ≤ l.length := by
  unfold trim trimR trimL
  rw [List.length_reverse]
  refine Nat.le_trans (List.dropWhile_sublist _).length_le ?_
  rw [List.length_reverse]
  exact (List.dropWhile_sublist _).length_le
end

end Go.Proofs.YtipdiddjhimdcaaGreatDoor

