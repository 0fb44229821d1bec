/-
  Escapes, of the program and of the reference.
-/
import Derived.Test.YtbkeommlolcaiaaScanF
import Derived.Deep.RegionLaw
namespace Go.Proofs.Ytbkeommlolcaiaa
open Go.RowKit

theorem ebyte_len (keep : List UInt8) (c : UInt8) : (ebyte keep c).length ≤ 3 := by unfold ebyte; split <;> simp

/-- the sixteen digits -/
def sixt : ByteArray := ⟨#[48, 49, 50, 51, 52, 53, 54, 55, 56, 57, 65, 66, 67, 68, 69, 70]⟩
theorem sixt_at (i : Nat) (h : i < 16) : ∃ h' : i < sixt.size, sixt[i] = hexd i :=
  ⟨h, (by decide : ∀ i : Fin 16, sixt[i.val]'i.isLt = hexd i.val) ⟨i, h⟩⟩
theorem run_index_at {P : Program} {ty : TypeId} (hty : P.underlying ty = some .string) (s : ByteArray) (k : IntKind) (i : Nat) (h : i < s.size) (w : World) :
    (Instr.index ty (.string s) (.int k (i : Int))).run P w = .ok (.int .u8 s[i].toNat) w := by
  have : s[i]? = some s[i] := getElem?_pos s i h
  have hi : 0 ≤ (i : Int) ∧ (i : Int) < s.size := by omega
  rw [run_index_string w ty s k (i : Int) hty, dif_pos hi]
  rfl
theorem sixt_run {P : Program} {ty : TypeId} (hty : P.underlying ty = some .string) (k : IntKind) (i : Nat) (h : i < 16) {E : Int} (hE : E = (i : Int)) (w : World) :
    (Instr.index ty (.string ⟨#[48, 49, 50, 51, 52, 53, 54, 55, 56, 57, 65, 66, 67, 68, 69, 70]⟩) (.int k E)).run P w = .ok (.int .u8 (hexd i).toNat) w := by
  obtain ⟨h', e⟩ := sixt_at i h
  rw [hE, ← e]
  exact run_index_at hty sixt k i h' w

theorem hex_and (c : UInt8) : bits BinOp.and IntKind.u8 c.toNat 15 = ((c.toNat % 16 : Nat) : Int) :=
  all_bytes (fun c => bits BinOp.and IntKind.u8 c.toNat 15 = ((c.toNat % 16 : Nat) : Int)) (by decide +kernel) c
theorem testc16 (c : UInt8) (b : Bool) (h : testc 16 c = b) : (bits BinOp.and IntKind.i64 (cls c) 16 != 0) = b := by
  rw [← h]; rfl
theorem ebyte_plain (keep : List UInt8) (c : UInt8) (h : c.toNat ≠ 37) (h' : testc 16 c = true ∨ hasb keep c = true) : ebyte keep c = [c] := by
  unfold ebyte; rw [if_pos ⟨h, h'⟩]
theorem ebyte_esc (keep : List UInt8) (c : UInt8) (h : c.toNat = 37 ∨ (testc 16 c = false ∧ hasb keep c = false)) : ebyte keep c = [37, hexd (c.toNat / 16), hexd (c.toNat % 16)] := by
  unfold ebyte; rw [if_neg]
  rintro ⟨h1, h2⟩
  rcases h with h | ⟨h3, h4⟩
  · exact h1 h
  · rw [h3, h4] at h2; simp at h2
theorem ebyte_cases (keep : List UInt8) (c : UInt8) :
    (((c.toNat : Int) != 37) = true ∧ testc 16 c = true ∧ ebyte keep c = [c]) ∨ (((c.toNat : Int) != 37) = true ∧ testc 16 c = false ∧ hasb keep c = true ∧ ebyte keep c = [c]) ∨
    (((c.toNat : Int) != 37) = true ∧ testc 16 c = false ∧ hasb keep c = false ∧ ebyte keep c = [37, hexd (c.toNat / 16), hexd (c.toNat % 16)]) ∨
    (((c.toNat : Int) != 37) = false ∧ ebyte keep c = [37, hexd (c.toNat / 16), hexd (c.toNat % 16)]) := by
  by_cases h : c.toNat = 37
  · exact .inr (.inr (.inr ⟨by simp; omega, ebyte_esc keep c (.inl h)⟩))
  have hn : ((c.toNat : Int) != 37) = true := by simp; omega
  cases h1 : testc 16 c with
  | true => exact .inl ⟨hn, rfl, ebyte_plain keep c h (.inl h1)⟩
  | false =>
    cases h2 : hasb keep c with
    | true => exact .inr (.inl ⟨hn, rfl, rfl, ebyte_plain keep c h (.inr h2)⟩)
    | false => exact .inr (.inr (.inl ⟨hn, rfl, rfl, ebyte_esc keep c (.inr ⟨h1, h2⟩)⟩))

set_option maxHeartbeats 1600000 in
theorem escape_c (s t : ByteArray) (hs : s.size ≤ 35184372088832) (hkt : t.size ≤ 9223372036854775807) (w : World) :
    Calls Try.prog 33 #[.string s, .string t] w fun e w' => e = .returned (.string (bs (escape (us s) (us t)))) ∧ Below w.heap.size w w' := by
  go_enter Try.func33, Try.ntmps33
  go_wp2
  go_loopw [5, 10] (fun v i wr => ∃ k : Nat, k ≤ s.size ∧ i = .int .i64 k ∧ Byt wr w.heap.size 5 v (((us s).take k).flatMap (ebyte (us t))) ∧ Below w.heap.size w wr) (fun _ i _ => s.size - (intOf i).toNat)
  case atStart => exact ⟨0, Nat.zero_le _, rfl, Byt.nil _ _ _, Below.refl _ _⟩
  case round =>
    obtain ⟨k, hk, rfl, hown, hB⟩ := hrel
    have HL := Lib.hid (flat_bd s (ebyte (us t)) 3 k (ebyte_len (us t)) hk)
    by_cases hlt : k < s.size
    · have ht := Lib.hid (flat_take s (ebyte (us t)) k hlt)
      have i1 := fun wx => sixt_run (P := Try.prog) Try.underlying9 .u8 (s[k].toNat / 16) (by have := s[k].toNat_lt; omega) (show (s[k].toNat : Int) / 16 = ((s[k].toNat / 16 : Nat) : Int) by omega) wx
      have i2 := fun wx => sixt_run (P := Try.prog) Try.underlying9 .u8 (s[k].toNat % 16) (by omega) (hex_and s[k]) wx
      rcases ebyte_cases (us t) s[k] with ⟨hp, h1, hE⟩ | ⟨hp, h1, h2, hE⟩ | ⟨hp, h1, h2, hE⟩ | ⟨hp, hE⟩
      · have HE := Lib.hid hE
        have h1' := testc16 _ _ h1
        clear h1 hE i1 i2
        go_wp2_with (first | (go_at_call 35; refine (class_c _ _).mono ?_; rintro e w' ⟨rfl, rfl⟩) | (at_builtin; refine wpList_appB1 s[k] rfl rfl rfl Try.underlying25 infoB rfl rfl hown hB (Nat.le_refl _) ?_ ?_; (focus (have := HL.out; omega)); intro v1 w1 ho1 hb1))
        go_roundw
        case rel => exact ⟨k + 1, by omega, by go_num, ho1.cast (by rw [ht.out, HE.out]), hb1⟩
        case measure => simp [intOf]; omega
      · have HE := Lib.hid hE
        have h1' := testc16 _ _ h1
        clear h1 hE i1 i2
        go_wp2_with (first | (go_at_call 35; refine (class_c _ _).mono ?_; rintro e w' ⟨rfl, rfl⟩) | (go_at_call 45; refine (in_c t hkt _ _).mono ?_; rintro e w' ⟨rfl, rfl⟩) | (at_builtin; refine wpList_appB1 s[k] rfl rfl rfl Try.underlying25 infoB rfl rfl hown hB (Nat.le_refl _) ?_ ?_; (focus (have := HL.out; omega)); intro v1 w1 ho1 hb1))
        go_roundw
        case rel => exact ⟨k + 1, by omega, by go_num, ho1.cast (by rw [ht.out, HE.out]), hb1⟩
        case measure => simp [intOf]; omega
      · have HE := Lib.hid hE
        have h1' := testc16 _ _ h1
        clear h1 hE
        go_wp2_with (first | (go_at_call 35; refine (class_c _ _).mono ?_; rintro e w' ⟨rfl, rfl⟩) | (go_at_call 45; refine (in_c t hkt _ _).mono ?_; rintro e w' ⟨rfl, rfl⟩))
        go_region_law (refine step_appB3 37 (hexd (s[k].toNat / 16)) (hexd (s[k].toNat % 16)) rfl rfl rfl rfl rfl Try.underlying25 infoB rfl rfl hown.drew hB.drew (Nat.le_refl _) ?_ ?_; (focus (have := HL.out; omega)); intro v1 w1 ho1 hb1)
        all_goals
          go_wp2
          go_roundw
          case rel => exact ⟨k + 1, by omega, by go_num, ho1.cast (by rw [ht.out, HE.out]), hb1⟩
          case measure => simp [intOf]; omega
      · have HE := Lib.hid hE
        clear hE
        go_wp2
        go_region_law (refine step_appB3 37 (hexd (s[k].toNat / 16)) (hexd (s[k].toNat % 16)) rfl rfl rfl rfl rfl Try.underlying25 infoB rfl rfl hown.drew hB.drew (Nat.le_refl _) ?_ ?_; (focus (have := HL.out; omega)); intro v1 w1 ho1 hb1)
        all_goals
          go_wp2
          go_roundw
          case rel => exact ⟨k + 1, by omega, by go_num, ho1.cast (by rw [ht.out, HE.out]), hb1⟩
          case measure => simp [intOf]; omega
    · have hown' := Lib.hid (take_all s k (by omega))
      go_wp2_with (refine wpList_str rfl rfl Try.underlying25 Try.underlying5 Try.underlying9 rfl hown ?_)
      go_ret
      exact ⟨ret_bs (by rw [us_bs]; first | rfl | rw [hown'.out]; rfl), hB⟩

end Go.Proofs.Ytbkeommlolcaiaa
