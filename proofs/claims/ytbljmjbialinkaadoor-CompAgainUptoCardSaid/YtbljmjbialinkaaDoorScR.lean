/-
  What escapes stand for, of the program and of the reference; the reference's Escape.
  Escapes read and written by the reference.
  The parts of a text, lists of texts held against each other and glued.
-/
import Derived.Test.YtbljmjbialinkaaDoorScQ
import Derived.Test.YtbljmjbialinkaaDoorBase
namespace Go.Proofs.YtbljmjbialinkaaDoor

section
open Go.RowKit

@[simp] theorem get_bs (l : List UInt8) (i : Nat) (h : i < (bs l).size) : (bs l)[i] = l[i]'(by rw [size_bs] at h; exact h) := by
  have h1 := get_us (bs l) i h
  rw [us_bs] at h1
  have h2 : i < l.length := by rw [size_bs] at h; exact h
  rw [List.getElem?_eq_getElem h2] at h1
  exact (Option.some.inj h1).symm
def rworth (c : UInt8) : Int := if testc 4 c then worth c else -1
def wmatch (k : Nat) (c : UInt8) : Bool := hexd k == c || low (hexd k) == c
theorem rworth_at (c : UInt8) : ∀ k : Fin 16, wmatch k.val c = true → rworth c = k.val :=
  all_bytes (fun c => ∀ k : Fin 16, wmatch k.val c = true → rworth c = k.val) (by decide +kernel) c
theorem rworth_no (c : UInt8) : (∀ k : Fin 16, wmatch k.val c = false) → rworth c = -1 :=
  all_bytes (fun c => (∀ k : Fin 16, wmatch k.val c = false) → rworth c = -1) (by decide +kernel) c
theorem one_at (k : Nat) (h : k < 16) : us (ByteArray.extract ⟨#[48, 49, 50, 51, 52, 53, 54, 55, 56, 57, 65, 66, 67, 68, 69, 70]⟩ k (k + 1)) = [hexd k] := by
  have := (by decide : ∀ k : Fin 16, us (ByteArray.extract ⟨#[48, 49, 50, 51, 52, 53, 54, 55, 56, 57, 65, 66, 67, 68, 69, 70]⟩ k.val (k.val + 1)) = [hexd k.val])
  exact this ⟨k, h⟩
theorem run_index_off {P : Program} {ty : TypeId} (hty : P.underlying ty = some .string) (s : ByteArray) (k : IntKind) (i : Nat) (h : i < s.size) {E : Int} (hE : E = (i : Int)) (w : World) :
    (Instr.index ty (.string s) (.int k E)).run P w = .ok (.int .u8 s[i].toNat) w := by subst hE; exact run_index_at hty s k i h w
theorem unesc_ne (c : UInt8) (r : List UInt8) (h : c.toNat ≠ 37) : unesc (c :: r) = (unesc r).map (c :: ·) := by
  match r with
  | [] => simp only [unesc, if_neg h]
  | [a] => rw [unesc.eq_def]; simp only [if_neg h]
  | a :: b :: r' => rw [unesc.eq_def]; simp only [if_neg h]
theorem unesc_plain (s : ByteArray) (k : Nat) (h : k < s.size) (hc : s[k].toNat ≠ 37) : unesc ((us s).drop k) = (unesc ((us s).drop (k + 1))).map (s[k] :: ·) := by
  rw [drop_us s k h, unesc_ne _ _ hc]
theorem unesc_two (s : ByteArray) (k : Nat) (h : k + 2 < s.size) (hc : s[k].toNat = 37) :
    unesc ((us s).drop k) = if testc 4 s[k + 1] && testc 4 s[k + 2] then (unesc ((us s).drop (k + 3))).map (UInt8.ofNat (16 * worth s[k + 1] + worth s[k + 2]) :: ·) else none := by
  rw [drop_us s k (by omega), drop_us s (k + 1) (by omega), drop_us s (k + 2) h]; simp only [unesc, if_pos hc]
theorem unesc_short (s : ByteArray) (k : Nat) (h : k < s.size) (h2 : s.size ≤ k + 2) (hc : s[k].toNat = 37) : unesc ((us s).drop k) = none := by
  rw [drop_us s k h]
  by_cases h1 : k + 1 < s.size
  · rw [drop_us s (k + 1) h1, drop_us_end s (k + 2) h2]; simp only [unesc, if_pos hc]
  · rw [drop_us_end s (k + 1) (by omega)]; simp only [unesc, if_pos hc]
theorem opt_step {x y z : Option (List UInt8)} {acc : List UInt8} {c : UInt8} (h : x = y.map (acc ++ ·)) (h' : y = z.map (c :: ·)) : x = z.map ((acc ++ [c]) ++ ·) := unq_step h h'
theorem hex_or (a b : Nat) (ha : a < 16) (hb : b < 16) : bits BinOp.or IntKind.u8 (IntKind.u8.wrap ((a : Int) * 16)) b = ((UInt8.ofNat (16 * a + b)).toNat : Int) := by
  have := (by decide +kernel : ∀ a b : Fin 16, bits BinOp.or IntKind.u8 (IntKind.u8.wrap ((a.val : Int) * 16)) b.val = ((UInt8.ofNat (16 * a.val + b.val)).toNat : Int))
  exact this ⟨a, ha⟩ ⟨b, hb⟩

theorem two_us (s : ByteArray) (k : Nat) (h : k + 2 < s.size) : us (s.extract (k + 1) (k + 3)) = [s[k + 1], s[k + 2]] := by
  rw [us_extract, drop_us s (k + 1) (by omega), drop_us s (k + 2) h]
  have : k + 3 - (k + 1) = 2 := by omega
  rw [this]; rfl
theorem all_two (s : ByteArray) (k : Nat) (h : k + 2 < s.size) (w : World) :
    Calls Tryd.prog 63 #[.string (s.extract (k + 1) (k + 3)), .int .i64 4] w fun e w' => e = .returned (.bool (testc 4 s[k + 1] && testc 4 s[k + 2])) ∧ w = w' := by
  have := all_c (s.extract (k + 1) (k + 3)) (by rw [size_extract _ _ _ (by omega)]; omega) 4 w
  rw [two_us s k h] at this
  have e : allc 4 [s[k + 1], s[k + 2]] = (testc 4 s[k + 1] && testc 4 s[k + 2]) := by simp [allc]
  rw [← e]; exact this

theorem nmW : (Tryd.f64.name == "runtime.NumGoroutine") = false := by kernel_rfl
theorem bdW : Tryd.f64.body.isNone = false := by kernel_rfl
set_option maxRecDepth 100000 in
set_option maxHeartbeats 3200000 in
theorem unescape_c (s : ByteArray) (hs : s.size ≤ 140737488355328) (w : World) :
    Calls Tryd.prog 43 #[.string s] w fun e w' => e = .returned (.tuple #[.string (bs (unescape (us s)).1), .int .i64 (unescape (us s)).2]) ∧ Below w.heap.size w w' := by
  go_enter Tryd.func43, Tryd.ntmps43
  go_wp2
  go_loopw [4, 5] (fun v i wr => ∃ (k : Nat) (acc : List UInt8), k ≤ s.size ∧ i = .int .i64 k ∧ Byt wr w.heap.size 5 v acc ∧ acc.length ≤ k ∧ unesc (us s) = (unesc ((us s).drop k)).map (acc ++ ·) ∧ Below w.heap.size w wr) (fun _ i _ => s.size - (intOf i).toNat)
  case atStart => exact ⟨0, [], Nat.zero_le _, rfl, Byt.nil _ _ _, Nat.le_refl _, by simp, Below.refl _ _⟩
  case round =>
    obtain ⟨k, acc, hk, rfl, hown, hal, hu, hB⟩ := hrel
    have HB := Lib.hid hu; clear hu
    by_cases hlt : k < s.size
    · by_cases hc : s[k].toNat = 37
      · have q0 : ((s[k].toNat : Int) != 37) = false := by simp; omega
        by_cases h2 : k + 2 < s.size
        · have HD := Lib.hid (unesc_two s k h2 hc)
          clear hc
          cases ht : testc 4 s[k + 1] && testc 4 s[k + 2] with
          | false =>
            have HF := Lib.hid (show unescape (us s) = ([], 12) by rw [unescape, HB.out, HD.out, ht]; rfl)
            go_wp2_with (go_at_call 63; refine (all_two s k h2 _).mono ?_; rintro e w' ⟨rfl, rfl⟩)
            go_ret2
            exact ⟨ret_si (by rw [HF.out]; rfl), hB⟩
          | true =>
            have HS := Lib.hid (unq_step HB.out (show unesc ((us s).drop k) = (unesc ((us s).drop (k + 3))).map (UInt8.ofNat (16 * worth s[k + 1] + worth s[k + 2]) :: ·) by rw [HD.out, ht]; rfl))
            have ht' : testc 4 s[k + 1] = true ∧ testc 4 s[k + 2] = true := by simpa using ht
            obtain ⟨ta, tb⟩ := ht'
            have TA := Lib.hid ta
            have TB := Lib.hid tb
            have wa := (worth_v _ ta).2.2
            have wb := (worth_v _ tb).2.2
            go_wp2_with (go_at_call 63; refine (all_two s k h2 _).mono ?_; rintro e w' ⟨rfl, rfl⟩)
            clear ta tb ht
            have p1 : k + 1 < s.size := by omega
            have p2 : k + 2 < s.size := by omega
            have hbd : acc.length + 1 ≤ 140737488355328 := by omega
            have k1 : (0 : Int) ≤ (k : Int) + 1 := by omega
            have k2 : (k : Int) + 1 < (s.size : Int) := by omega
            have k3 : (0 : Int) ≤ (k : Int) + 2 := by omega
            have k4 : (k : Int) + 2 < (s.size : Int) := by omega
            have k5 : ((k : Int) + 1).toNat = k + 1 := by omega
            have k6 : ((k : Int) + 2).toNat = k + 2 := by omega
            have k7 : IntKind.i64.wrap ((k : Int) + 1) = (k : Int) + 1 := IntWalk.i64_in _ (by omega)
            have k8 : IntKind.i64.wrap ((k : Int) + 2) = (k : Int) + 2 := IntWalk.i64_in _ (by omega)
            go_region_law (first | (refine step_call1 (v0 := .int .u8 (s[k + 1]'p1).toNat) (v := .int .u8 (worth (s[k + 1]'p1))) rfl rfl Tryd.func64 nmW bdW ?_ ?_ ?_; (focus rfl); (focus (exact worth_c _ TA.out _))) | (refine step_call1 (v0 := .int .u8 (s[k + 2]'p2).toNat) (v := .int .u8 (worth (s[k + 2]'p2))) rfl rfl Tryd.func64 nmW bdW ?_ ?_ ?_; (focus rfl); (focus (exact worth_c _ TB.out _))) | (refine step_appB1 (UInt8.ofNat (16 * worth (s[k + 1]'p1) + worth (s[k + 2]'p2))) (hex_or _ _ wa wb) rfl rfl Tryd.underlying82 infoB rfl rfl hown.drew hB.drew (Nat.le_refl _) hbd ?_; intro v1 w1 ho1 hb1))
            all_goals
              try clear k7
              try clear k8
              try clear k5
              try clear k6
              go_wp2
              go_roundw
              case rel => exact ⟨k + 3, _, by omega, by simp; omega, ho1, by simp; omega, HS.out, hb1⟩
              case measure => simp [intOf]; omega
        · have HF := Lib.hid (show unescape (us s) = ([], 12) by rw [unescape, HB.out, unesc_short s k hlt (by omega) hc]; rfl)
          clear hc
          go_wp2
          go_ret2
          exact ⟨ret_si (by rw [HF.out]; rfl), hB⟩
      · have q0 : ((s[k].toNat : Int) != 37) = true := by simp; omega
        have HS := Lib.hid (unq_step HB.out (unesc_plain s k hlt hc))
        clear hc
        go_wp2_with (at_builtin; refine wpList_appB1 s[k] rfl rfl rfl Tryd.underlying82 infoB rfl rfl hown hB (Nat.le_refl _) ?_ ?_; (focus omega); intro v1 w1 ho1 hb1)
        go_roundw
        case rel => exact ⟨k + 1, _, by omega, by go_num, ho1, by simp; omega, HS.out, hb1⟩
        case measure => simp [intOf]; omega
    · have HF := Lib.hid (show unescape (us s) = (acc, 0) by rw [unescape, HB.out, drop_us_end s k (by omega)]; simp [unesc, okOr])
      go_wp2_with (refine wpList_str rfl rfl Tryd.underlying82 Tryd.underlying5 Tryd.underlying9 rfl hown ?_)
      go_ret2
      exact ⟨ret_si (by rw [HF.out]; simp), hB⟩
end

section
open Go.RowKit

theorem hex_add (a b : Nat) (ha : a < 16) (hb : b < 16) : IntKind.u8.wrap (IntKind.i64.wrap (IntKind.i64.wrap (16 * (a : Int)) + (b : Int))) = ((UInt8.ofNat (16 * a + b)).toNat : Int) := by
  have := (by decide +kernel : ∀ a b : Fin 16, IntKind.u8.wrap (IntKind.i64.wrap (IntKind.i64.wrap (16 * (a.val : Int)) + (b.val : Int))) = ((UInt8.ofNat (16 * a.val + b.val)).toNat : Int))
  exact this ⟨a, ha⟩ ⟨b, hb⟩

theorem sixt_get {P : Program} {ty : TypeId} (hty : P.underlying ty = some .string) (c : UInt8) (wx : World) :
    (Instr.index ty (.string ⟨#[48, 49, 50, 51, 52, 53, 54, 55, 56, 57, 65, 66, 67, 68, 69, 70]⟩) (.int .i64 ((c.toNat : Int) / 16))).run P wx = .ok (.int .u8 (hexd (c.toNat / 16)).toNat) wx ∧
    (Instr.index ty (.string ⟨#[48, 49, 50, 51, 52, 53, 54, 55, 56, 57, 65, 66, 67, 68, 69, 70]⟩) (.int .i64 ((c.toNat : Int) % 16))).run P wx = .ok (.int .u8 (hexd (c.toNat % 16)).toNat) wx :=
  ⟨sixt_run hty .i64 (c.toNat / 16) (by have := c.toNat_lt; omega) (by omega) wx, sixt_run hty .i64 (c.toNat % 16) (by omega) (by omega) wx⟩

end

section
open Go.RowKit

theorem infoS : infoIs Tryd.prog 9 (.string ⟨#[]⟩) 1 16 := by unfold infoIs; kernel_rfl
theorem pg_esc (sep : UInt8) (a : Bool) (cur : List UInt8) (s : ByteArray) (k : Nat) (h : k < s.size) (hc : s[k].toNat = 92) :
    partsGo sep true a cur ((us s).drop k) = partsGo sep true a (cur ++ ((us s).drop k).take 2) ((us s).drop (k + 2)) := by
  rw [drop_us s k h]
  by_cases h1 : k + 1 < s.size
  · rw [drop_us s (k + 1) h1]; simp [partsGo, hc]
  · rw [drop_us_end s (k + 1) (by omega), drop_us_end s (k + 2) (by omega)]; simp [partsGo, hc]
theorem pg_cons (sep : UInt8) (q a : Bool) (cur : List UInt8) (c : UInt8) (r : List UInt8) (h : ¬ (q = true ∧ c.toNat = 92)) :
    partsGo sep q a cur (c :: r) = if c.toNat = 34 then partsGo sep (!q) a (cur ++ [c]) r
    else if q = true then partsGo sep q a (cur ++ [c]) r
    else if c.toNat = 60 then partsGo sep q true (cur ++ [c]) r
    else if c.toNat = 62 then partsGo sep q false (cur ++ [c]) r
    else if c.toNat = sep.toNat ∧ a = false then cur :: partsGo sep q a [] r
    else partsGo sep q a (cur ++ [c]) r := by
  rw [partsGo.eq_def]; simp only [if_neg h]
/-- the piece so far -/
def piece (s : ByteArray) (fr k : Nat) : List UInt8 := ((us s).drop fr).take (k - fr)
theorem piece_snoc (s : ByteArray) (fr k : Nat) (h : fr ≤ k) (hk : k < s.size) : piece s fr k ++ [s[k]] = piece s fr (k + 1) := by
  unfold piece
  have := cut_snoc s fr (k + 1) (by omega) (by omega)
  simp only [Nat.add_sub_cancel] at this
  exact this.symm
theorem piece_two (s : ByteArray) (fr k : Nat) (h : fr ≤ k) : piece s fr k ++ ((us s).drop k).take 2 = piece s fr (k + 2) := by
  unfold piece
  have e1 : k + 2 - fr = (k - fr) + 2 := by omega
  have e2 : (us s).drop k = ((us s).drop fr).drop (k - fr) := by rw [List.drop_drop]; congr 1; omega
  rw [e1, e2, ← List.take_add]
theorem piece_end (s : ByteArray) (fr k : Nat) (h : s.size ≤ k) : piece s fr k = (us s).drop fr := by
  unfold piece; rw [List.take_of_length_le]; rw [List.length_drop, length_us]; omega
theorem piece_self (s : ByteArray) (k : Nat) : piece s k k = [] := by unfold piece; rw [Nat.sub_self, List.take_zero]

end

end Go.Proofs.YtbljmjbialinkaaDoor
