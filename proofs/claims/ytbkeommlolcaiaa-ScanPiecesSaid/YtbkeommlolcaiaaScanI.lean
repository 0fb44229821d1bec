/-
  Escapes read and written by the reference.
-/
import Derived.Test.YtbkeommlolcaiaaScanH
import Derived.Test.YtbkeommlolcaiaaMem2
namespace Go.Proofs.Ytbkeommlolcaiaa
open Go.RowKit

theorem worthR_v (c : UInt8) (b : Bool) (h : testc 4 c = b) (w : World) :
    Calls Try.prog 44 #[.int .u8 c.toNat] w fun e w' => e = .returned (.int .i64 (if b then (worth c : Int) else -1)) ∧ Below w.heap.size w w' := by
  have := worthR_c c w
  unfold rworth at this
  rw [h] at this
  exact this
theorem nmR : (Try.f44.name == "runtime.NumGoroutine") = false := by kernel_rfl
theorem bdR : Try.f44.body.isNone = false := by kernel_rfl

theorem hex_add (a b : Nat) (ha : a < 16) (hb : b < 16) : IntKind.u8.wrap (IntKind.i64.wrap (IntKind.i64.wrap (16 * (a : Int)) + (b : Int))) = ((UInt8.ofNat (16 * a + b)).toNat : Int) := by
  have := (by decide +kernel : ∀ a b : Fin 16, IntKind.u8.wrap (IntKind.i64.wrap (IntKind.i64.wrap (16 * (a.val : Int)) + (b.val : Int))) = ((UInt8.ofNat (16 * a.val + b.val)).toNat : Int))
  exact this ⟨a, ha⟩ ⟨b, hb⟩

set_option maxHeartbeats 3200000 in
theorem unescapeR_c (s : ByteArray) (hs : s.size ≤ 140737488355328) (w : World) :
    Calls Try.prog 32 #[.string s] w fun e w' => e = .returned (.tuple #[.string (bs (unescape (us s)).1), .int .i64 (unescape (us s)).2]) ∧ Below w.heap.size w w' := by
  go_enter Try.func32, Try.ntmps32
  go_wp2
  go_loopw [4, 5] (fun v i wr => ∃ (k : Nat) (acc : List UInt8), k ≤ s.size ∧ i = .int .i64 k ∧ Byt wr w.heap.size 5 v acc ∧ acc.length ≤ k ∧ unesc (us s) = (unesc ((us s).drop k)).map (acc ++ ·) ∧ Below w.heap.size w wr) (fun _ i _ => s.size - (intOf i).toNat)
  case atStart => exact ⟨0, [], Nat.zero_le _, rfl, Byt.nil _ _ _, Nat.le_refl _, by simp, Below.refl _ _⟩
  case round =>
    obtain ⟨k, acc, hk, rfl, hown, hal, hu, hB⟩ := hrel
    have HB := Lib.hid hu; clear hu
    by_cases hlt : k < s.size
    · by_cases hc : s[k].toNat = 37
      · have q0 : ((s[k].toNat : Int) != 37) = false := by simp; omega
        by_cases h2 : k + 2 < s.size
        · have HD := Lib.hid (unesc_two s k h2 hc)
          clear hc
          cases ta : testc 4 s[k + 1] with
          | false =>
            have HF := Lib.hid (show unescape (us s) = ([], 12) by rw [unescape, HB.out, HD.out, ta]; rfl)
            go_wp2_with (go_at_call 44; refine (worthR_v s[k + 1] false ta _).mono ?_; rintro e w1 ⟨rfl, hB1⟩)
            go_ret2
            exact ⟨ret_si (by rw [HF.out]; rfl), hB.trans (hB1.mono hB.size)⟩
          | true =>
            cases tb : testc 4 s[k + 2] with
            | false =>
              have HF := Lib.hid (show unescape (us s) = ([], 12) by rw [unescape, HB.out, HD.out, ta, tb]; rfl)
              have wa := (worth_v _ ta).2.2
              go_wp2_with fail
              refine (worthR_v s[k + 1] true ta _).mono ?_
              rintro e w1 ⟨rfl, hB1⟩
              go_wp2_with fail
              refine (worthR_v s[k + 2] false tb _).mono ?_
              rintro e w2 ⟨rfl, hB2⟩
              go_wp2_with fail
              go_ret2
              exact ⟨ret_si (by rw [HF.out]; rfl), hB.trans ((hB1.mono hB.size).trans (hB2.mono (Nat.le_trans hB.size hB1.size)))⟩
            | true =>
              have HS := Lib.hid (unq_step HB.out (show unesc ((us s).drop k) = (unesc ((us s).drop (k + 3))).map (UInt8.ofNat (16 * worth s[k + 1] + worth s[k + 2]) :: ·) by rw [HD.out, ta, tb]; rfl))
              have wa := (worth_v _ ta).2.2
              have wb := (worth_v _ tb).2.2
              have TA := Lib.hid ta
              have TB := Lib.hid tb
              go_wp2_with fail
              refine (worthR_v s[k + 1] true ta _).mono ?_
              rintro e w1 ⟨rfl, hB1⟩
              go_wp2_with fail
              refine (worthR_v s[k + 2] true tb _).mono ?_
              rintro e w2 ⟨rfl, hB2⟩
              go_wp2_with fail
              have hown2 := (hown.below hB1 (Nat.le_refl _)).below hB2 (Nat.le_refl _)
              have hBB := hB.trans ((hB1.mono hB.size).trans (hB2.mono (Nat.le_trans hB.size hB1.size)))
              clear ta tb hown hB hB1 hB2
              have p1 : k + 1 < s.size := by omega
              have p2 : k + 2 < s.size := by omega
              have hbd : acc.length + 1 ≤ 140737488355328 := by omega
              have k1 : (0 : Int) ≤ (k : Int) + 1 := by omega
              have k2 : (k : Int) + 1 < (s.size : Int) := by omega
              have k3 : (0 : Int) ≤ (k : Int) + 2 := by omega
              have k4 : (k : Int) + 2 < (s.size : Int) := by omega
              have k5 : ((k : Int) + 1).toNat = k + 1 := by omega
              have k6 : ((k : Int) + 2).toNat = k + 2 := by omega
              have k7 : IntKind.i64.wrap ((k : Int) + 1) = (k : Int) + 1 := IntWalk.i64_in _ (by omega)
              have k8 : IntKind.i64.wrap ((k : Int) + 2) = (k : Int) + 2 := IntWalk.i64_in _ (by omega)
              go_region_law (first | (refine step_callB1 (v0 := .int .u8 (s[k + 1]'p1).toNat) (v := .int .i64 (worth (s[k + 1]'p1))) rfl rfl Try.func44 nmR bdR ?_ ?_ ?_; (focus rfl); (focus (exact worthR_v _ true TA.out _)); intro w3 hB3) | (refine step_callB1 (v0 := .int .u8 (s[k + 2]'p2).toNat) (v := .int .i64 (worth (s[k + 2]'p2))) rfl rfl Try.func44 nmR bdR ?_ ?_ ?_; (focus rfl); (focus (exact worthR_v _ true TB.out _)); intro w4 hB4) | (refine step_appB1 (UInt8.ofNat (16 * worth (s[k + 1]'p1) + worth (s[k + 2]'p2))) (hex_add _ _ wa wb) rfl rfl Try.underlying25 infoB rfl rfl ((hown2.drew.below hB3 (Nat.le_refl _)).below hB4 (Nat.le_refl _)) (hBB.drew.trans ((hB3.mono hBB.drew.size).trans (hB4.mono (Nat.le_trans hBB.drew.size hB3.size)))) (Nat.le_refl _) hbd ?_; intro v1 w5 ho1 hb1))
              all_goals
                try clear k7
                try clear k8
                try clear k5
                try clear k6
                go_wp2
                go_roundw
                case rel => exact ⟨k + 3, _, by omega, by go_num, ho1, by simp; omega, HS.out, hb1⟩
                case measure => simp [intOf]; omega
        · have HF := Lib.hid (show unescape (us s) = ([], 12) by rw [unescape, HB.out, unesc_short s k hlt (by omega) hc]; rfl)
          clear hc
          go_wp2
          go_ret2
          exact ⟨ret_si (by rw [HF.out]; rfl), hB⟩
      · have q0 : ((s[k].toNat : Int) != 37) = true := by simp; omega
        have HS := Lib.hid (unq_step HB.out (unesc_plain s k hlt hc))
        clear hc
        go_wp2_with (at_builtin; refine wpList_appB1 s[k] rfl rfl rfl Try.underlying25 infoB rfl rfl hown hB (Nat.le_refl _) ?_ ?_; (focus omega); intro v1 w1 ho1 hb1)
        go_roundw
        case rel => exact ⟨k + 1, _, by omega, by go_num, ho1, by simp; omega, HS.out, hb1⟩
        case measure => simp [intOf]; omega
    · have HF := Lib.hid (show unescape (us s) = (acc, 0) by rw [unescape, HB.out, drop_us_end s k (by omega)]; simp [unesc, okOr])
      go_wp2_with (refine wpList_str rfl rfl Try.underlying25 Try.underlying5 Try.underlying9 rfl hown ?_)
      go_ret2
      exact ⟨ret_si (by rw [HF.out]; simp), hB⟩

theorem sixt_get {P : Program} {ty : TypeId} (hty : P.underlying ty = some .string) (c : UInt8) (wx : World) :
    (Instr.index ty (.string ⟨#[48, 49, 50, 51, 52, 53, 54, 55, 56, 57, 65, 66, 67, 68, 69, 70]⟩) (.int .i64 ((c.toNat : Int) / 16))).run P wx = .ok (.int .u8 (hexd (c.toNat / 16)).toNat) wx ∧
    (Instr.index ty (.string ⟨#[48, 49, 50, 51, 52, 53, 54, 55, 56, 57, 65, 66, 67, 68, 69, 70]⟩) (.int .i64 ((c.toNat : Int) % 16))).run P wx = .ok (.int .u8 (hexd (c.toNat % 16)).toNat) wx :=
  ⟨sixt_run hty .i64 (c.toNat / 16) (by have := c.toNat_lt; omega) (by omega) wx, sixt_run hty .i64 (c.toNat % 16) (by omega) (by omega) wx⟩

set_option maxHeartbeats 3200000 in
theorem escapeR_c (s t : ByteArray) (hs : s.size ≤ 35184372088832) (hkt : t.size ≤ 9223372036854775807) (w : World) :
    Calls Try.prog 34 #[.string s, .string t] w fun e w' => e = .returned (.string (bs (escape (us s) (us t)))) ∧ Below w.heap.size w w' := by
  go_enter Try.func34, Try.ntmps34
  go_wp2
  go_loopw [5, 6] (fun v i wr => ∃ k : Nat, k ≤ s.size ∧ i = .int .i64 k ∧ Byt wr w.heap.size 5 v (((us s).take k).flatMap (ebyte (us t))) ∧ Below w.heap.size w wr) (fun _ i _ => s.size - (intOf i).toNat)
  case atStart => exact ⟨0, Nat.zero_le _, rfl, Byt.nil _ _ _, Below.refl _ _⟩
  case round =>
    obtain ⟨k, hk, rfl, hown, hB⟩ := hrel
    have HL := Lib.hid (flat_bd s (ebyte (us t)) 3 k (ebyte_len (us t)) hk)
    by_cases hlt : k < s.size
    · have ht := Lib.hid (flat_take s (ebyte (us t)) k hlt)
      have hcl := s[k].toNat_lt
      have i1 := fun wx => (sixt_get (P := Try.prog) Try.underlying9 s[k] wx).1
      have i2 := fun wx => (sixt_get (P := Try.prog) Try.underlying9 s[k] wx).2
      rcases ebyte_cases (us t) s[k] with ⟨hp, h1, hE⟩ | ⟨hp, h1, h2, hE⟩ | ⟨hp, h1, h2, hE⟩ | ⟨hp, hE⟩
      · have HE := Lib.hid hE
        have h1' := testc16 _ _ h1
        clear h1 hE i1 i2
        go_wp2_with (first | (go_at_call 42; refine (classR_c _ _).mono ?_; rintro e w' ⟨rfl, rfl⟩) | (at_builtin; refine wpList_appB1 s[k] rfl rfl rfl Try.underlying25 infoB rfl rfl hown hB (Nat.le_refl _) ?_ ?_; (focus (have := HL.out; omega)); intro v1 w1 ho1 hb1))
        go_roundw
        case rel => exact ⟨k + 1, by omega, by go_num, ho1.cast (by rw [ht.out, HE.out]), hb1⟩
        case measure => simp [intOf]; omega
      · have HE := Lib.hid hE
        have h1' := testc16 _ _ h1
        clear h1 hE i1 i2
        go_wp2_with (first | (go_at_call 42; refine (classR_c _ _).mono ?_; rintro e w' ⟨rfl, rfl⟩) | (go_at_call 46; refine (has_c t hkt _ _).mono ?_; rintro e w' ⟨rfl, rfl⟩) | (at_builtin; refine wpList_appB1 s[k] rfl rfl rfl Try.underlying25 infoB rfl rfl hown hB (Nat.le_refl _) ?_ ?_; (focus (have := HL.out; omega)); intro v1 w1 ho1 hb1))
        go_roundw
        case rel => exact ⟨k + 1, by omega, by go_num, ho1.cast (by rw [ht.out, HE.out]), hb1⟩
        case measure => simp [intOf]; omega
      · have HE := Lib.hid hE
        have h1' := testc16 _ _ h1
        clear h1 hE
        go_wp2_with (first | (go_at_call 42; refine (classR_c _ _).mono ?_; rintro e w' ⟨rfl, rfl⟩) | (go_at_call 46; refine (has_c t hkt _ _).mono ?_; rintro e w' ⟨rfl, rfl⟩) | (at_builtin; refine wpList_appB1 37 rfl rfl rfl Try.underlying25 infoB rfl rfl hown hB (Nat.le_refl _) ?_ ?_; (focus (have := HL.out; omega)); intro v1 w1 ho1 hb1) | (at_builtin; refine wpList_appB1 (hexd (s[k].toNat / 16)) rfl rfl rfl Try.underlying25 infoB rfl rfl ho1 hb1 (Nat.le_refl _) ?_ ?_; (focus (simp only [List.length_append, List.length_cons, List.length_nil]; have := HL.out; omega)); intro v2 w2 ho2 hb2) | (at_builtin; refine wpList_appB1 (hexd (s[k].toNat % 16)) rfl rfl rfl Try.underlying25 infoB rfl rfl ho2 hb2 (Nat.le_refl _) ?_ ?_; (focus (simp only [List.length_append, List.length_cons, List.length_nil]; have := HL.out; omega)); intro v3 w3 ho3 hb3))
        go_roundw
        case rel => exact ⟨k + 1, by omega, by go_num, ho3.cast (by rw [ht.out, HE.out]; simp), hb3⟩
        case measure => simp [intOf]; omega
      · have HE := Lib.hid hE
        clear hE
        go_wp2_with (first | (at_builtin; refine wpList_appB1 37 rfl rfl rfl Try.underlying25 infoB rfl rfl hown hB (Nat.le_refl _) ?_ ?_; (focus (have := HL.out; omega)); intro v1 w1 ho1 hb1) | (at_builtin; refine wpList_appB1 (hexd (s[k].toNat / 16)) rfl rfl rfl Try.underlying25 infoB rfl rfl ho1 hb1 (Nat.le_refl _) ?_ ?_; (focus (simp only [List.length_append, List.length_cons, List.length_nil]; have := HL.out; omega)); intro v2 w2 ho2 hb2) | (at_builtin; refine wpList_appB1 (hexd (s[k].toNat % 16)) rfl rfl rfl Try.underlying25 infoB rfl rfl ho2 hb2 (Nat.le_refl _) ?_ ?_; (focus (simp only [List.length_append, List.length_cons, List.length_nil]; have := HL.out; omega)); intro v3 w3 ho3 hb3))
        go_roundw
        case rel => exact ⟨k + 1, by omega, by go_num, ho3.cast (by rw [ht.out, HE.out]; simp), hb3⟩
        case measure => simp [intOf]; omega
    · have hown' := Lib.hid (take_all s k (by omega))
      go_wp2_with (refine wpList_str rfl rfl Try.underlying25 Try.underlying5 Try.underlying9 rfl hown ?_)
      go_ret
      exact ⟨ret_bs (by rw [us_bs]; first | rfl | rw [hown'.out]; rfl), hB⟩

end Go.Proofs.Ytbkeommlolcaiaa
