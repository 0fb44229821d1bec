/- Contracts of Go functions, and plain laws. No condition but those told. -/
import Derived.Test.YtipdiddjhimdcaaGreatDoorR16
import Derived.Test.YtipdiddjhimdcaaGreatDoorR13
import Derived.Test.YtipdiddjhimdcaaGreatDoorRmA
import Derived.WalkKit
import Derived.Lib.IndexEntry
import Derived.WalkSpells
import Derived.WalkLawsBesides
import Derived.Lib.Hide
import Derived.Deep.QuietTactic
import Derived.BigQuiet
import Derived.WalkSmall
import Derived.Lib.ConvBytes
import Derived.Laws.IdiomStrings
import Derived.Deep.RegionLaw
import Derived.Lib.AppendStr
import Derived.Lib.IndexBytes
import Derived.OwnWalk
import Derived.Test.YtipdiddjhimdcaaGreatDoorShelf
import Derived.Lib.Replace
import Derived.Lib.Split
set_option linter.unusedSimpArgs false
set_option linter.unusedVariables false
set_option maxRecDepth 100000
namespace Go.Proofs.YtipdiddjhimdcaaGreatDoor
section
open Go.RowKit
def hexd (n : Nat) : UInt8 := UInt8.ofNat (if n < 10 then 48 + n else 55 + n)
end
section
open Go.RowKit
end
section
open Go.RowKit
end
section
open Go.RowKit
end
section
open Go.RowKit
end
section
open Go.RowKit
end
section
open Go.RowKit
end
section
open Go.RowKit
set_option maxHeartbeats 400000 in
theorem bareR_c (c : UInt8) (w : World) :
  Calls Tryz.prog 164 #[.int .u8 c.toNat] w fun e w' => e = .returned (.bool (bare c)) ∧ w = w' := by
 have hc := c.toNat_lt
 go_enter Tryz.func164, Tryz.ntmps164
 go_wp2
 all_goals
  go_ret
  refine ⟨ret_bool ?_, rfl⟩
  rw [Bool.eq_iff_iff, bare_iff]
  simp_all
  try omega
set_option maxHeartbeats 400000 in
theorem brokenR_c (c : UInt8) (w : World) :
  Calls Tryz.prog 163 #[.int .u8 c.toNat] w fun e w' => e = .returned (.bool (broken c)) ∧ w = w' := by
 have hc := c.toNat_lt
 go_enter Tryz.func163, Tryz.ntmps163
 go_wp2
 all_goals
  go_ret
  refine ⟨ret_bool ?_, rfl⟩
  rw [Bool.eq_iff_iff]
  simp_all [broken]
  try omega
end
section
open Go.RowKit
/-! trimming -/
end
section
open Go.RowKit
/-! numbers -/
end
section
open Go.RowKit
set_option maxHeartbeats 1600000 in
theorem quoteR_c (s : ByteArray) (hs : s.size ≤ 35184372088832) (w : World) :
  Calls Tryz.prog 118 #[.string s] w fun e w' => e = .returned (.tuple #[.string (bs (quote (us s)).1), .int .i64 (quote (us s)).2]) ∧ Below w.heap.size w w' := by
 go_enter Tryz.func118, Tryz.ntmps118
 go_wp2
 go_loopw [4, 5] (fun v i wr => ∃ k : Nat, k ≤ s.size ∧ i = .int .i64 k ∧ Byt wr w.heap.size 5 v (((us s).take k).flatMap qbyte) ∧ ((us s).take k).any broken = false ∧ Below w.heap.size w wr) (fun _ i _ => s.size - (intOf i).toNat)
 case atStart => exact ⟨0, Nat.zero_le _, rfl, Byt.nil _ _ _, rfl, Below.refl _ _⟩
 case round =>
  obtain ⟨k, hk, rfl, hown, hany, hB⟩ := hrel
  have HA := κ hany; clear hany
  have HL := κ (flat_bd s qbyte 2 k qbyte_len hk)
  by_cases hlt : k < s.size
  ·have ht := κ (flat_take s qbyte k hlt)
   have ha := κ (any_take s broken k hlt)
   by_cases hbk : broken s[k] = true
   ·have HF := κ (quote_no (us s) (any_found s broken k hlt hbk))
    go_wp2_with (go_at_call 163; refine (brokenR_c _ _).mono ?_; rintro e w' ⟨rfl, rfl⟩)
    go_ret2
    exact ⟨ret_si (by rw [HF.out]; rfl), hB⟩
   ·have hbk' : broken s[k] = false := by simpa using hbk
    have HK := κ (show ((us s).take (k + 1)).any broken = false by rw [ha.out, HA.out, hbk']; rfl)
    clear hbk
    by_cases hbr : bare s[k] = true
    ·have HQ := κ (show qbyte s[k] = [s[k]] by unfold qbyte; rw [hbr]; rfl)
     go_wp2_with (first | (go_at_call 163; refine (brokenR_c _ _).mono ?_; rintro e w' ⟨rfl, rfl⟩) | (go_at_call 164; refine (bareR_c _ _).mono ?_; rintro e w' ⟨rfl, rfl⟩) | (at_builtin; refine wpList_appB1 s[k] rfl rfl rfl Tryz.underlying140 infoB rfl rfl hown hB (ρ _) ?_ ?_; (focus (have := HL.out; omega)); intro v1 w1 ho1 hb1))
     go_roundw
     case rel => exact ⟨k + 1, by omega, by go_num, ho1.cast (by rw [ht.out, HQ.out]), HK.out, hb1⟩
     case measure => simp [intOf]; omega
    ·have hbr' : bare s[k] = false := by simpa using hbr
     clear hbr
     have HQ := κ (show qbyte s[k] = [92, s[k]] by unfold qbyte; rw [hbr']; rfl)
     go_wp2_with (first | (go_at_call 163; refine (brokenR_c _ _).mono ?_; rintro e w' ⟨rfl, rfl⟩) | (go_at_call 164; refine (bareR_c _ _).mono ?_; rintro e w' ⟨rfl, rfl⟩) | (at_builtin; refine wpList_appB1 92 rfl rfl rfl Tryz.underlying140 infoB rfl rfl hown hB (ρ _) ?_ ?_; (focus (have := HL.out; omega)); intro v1 w1 ho1 hb1) | (at_builtin; refine wpList_appB1 s[k] rfl rfl rfl Tryz.underlying140 infoB rfl rfl ho1 hb1 (ρ _) ?_ ?_; (focus (simp only [List.length_append, List.length_cons, List.length_nil]; have := HL.out; omega)); intro v2 w2 ho2 hb2))
     go_roundw
     case rel => exact ⟨k + 1, by omega, by go_num, ho2.cast (by rw [ht.out, HQ.out]; simp), HK.out, hb2⟩
     case measure => simp [intOf]; omega
  ·have HF := κ (quote_ok (us s) (by rw [← HA.out, take_all s k (by omega)]))
   have hown' := κ (take_all s k (by omega))
   obtain ⟨G, hG⟩ : ∃ G, G = ((us s).take k).flatMap qbyte := ⟨_, rfl⟩
   have hGl : G.length ≤ 70368744177664 := by rw [hG]; have := HL.out; omega
   rw [← hG] at hown
   have HG := κ hG; clear hG HL
   go_wp2_with (refine wpList_str rfl rfl Tryz.underlying140 Tryz.underlying5 Tryz.underlying9 rfl hown ?_)
   go_ret2
   exact ⟨ret_si (by rw [HF.out, us_append, us_append, us_bs, HG.out, hown'.out]; rfl), hB⟩
end
section
open Go.RowKit
theorem get_extract (s : ByteArray) (a b k : Nat) (hb : b ≤ s.size) (h : a + k < b) : (us (s.extract a b))[k]? = some s[a + k] := by
 rw [us_extract, List.getElem?_take, if_pos (by omega), List.getElem?_drop, get_us s (a + k) (by omega)]
theorem get_in (s t : ByteArray) (ht : t = s.extract 1 (s.size - 1)) (k : Nat) (h : k < t.size) (h' : k + 1 < s.size) : t[k] = s[k + 1] := by
 have h1 := get_us t k h
 have h2 : k + 2 < s.size ∨ s.size ≤ k + 2 := by omega
 have h3 : t.size = s.size - 1 - 1 := by rw [ht, size_extract _ _ _ (by omega)]
 have h4 := get_extract s 1 (s.size - 1) k (by omega) (by omega)
 rw [← ht, h1] at h4
 injection h4 with h4
 rw [h4]
 congr 1; omega
set_option maxHeartbeats 3200000 in
theorem unquoteR_c (s : ByteArray) (hs : s.size ≤ 140737488355328) (w : World) :
  Calls Tryz.prog 172 #[.string s] w fun e w' => e = .returned (.tuple #[.string (bs (unquote (us s)).1), .int .i64 (unquote (us s)).2]) ∧ Below w.heap.size w w' := by
 rcases unquote_cases s with ⟨hx, hF⟩ | ⟨h2, g3, g4, hU⟩
 ·have HF := κ hF
  clear hF
  rcases hx with h2 | ⟨h2, h3⟩ | ⟨h2, h3, h4⟩
  all_goals
   go_enter Tryz.func172, Tryz.ntmps172
   go_wp2
   go_ret2
   exact ⟨ret_si (by rw [HF.out]; rfl), Below.refl _ _⟩
 ·have HU := κ hU
  clear hU
  have hts : (s.extract 1 (s.size - 1)).size = s.size - 2 := by rw [size_extract _ _ _ (by omega)]; omega
  obtain ⟨t, ht⟩ : ∃ t, t = s.extract 1 (s.size - 1) := ⟨_, rfl⟩
  rw [← ht] at hts HU
  have HTT := κ ht
  have t1 : t.size + 2 ≤ s.size := by omega
  have t2 : s.size ≤ t.size + 2 := by omega
  clear ht hts
  go_enter Tryz.func172, Tryz.ntmps172
  go_wp2
  go_loopw [4, 5] (fun v i wr => ∃ (k : Nat) (acc : List UInt8), k ≤ t.size ∧ i = .int .i64 (k + 1 : Nat) ∧ Byt wr w.heap.size 5 v acc ∧ acc.length ≤ k ∧ unqGo (us t) = (unqGo ((us t).drop k)).map (acc ++ ·) ∧ Below w.heap.size w wr) (fun _ i _ => s.size - (intOf i).toNat)
  case atStart => exact ⟨0, [], Nat.zero_le _, rfl, Byt.nil _ _ _, ρ _, by simp, Below.refl _ _⟩
  case round =>
   obtain ⟨k, acc, hk, rfl, hown, hal, hu, hB⟩ := hrel
   have HB := κ hu; clear hu
   by_cases hlt : k < t.size
   ·have e1 := get_in s t HTT.out k hlt (by omega)
    by_cases he : k + 1 < t.size ∧ t[k].toNat = 92
    ·obtain ⟨he1, he2⟩ := he
     have e2 := get_in s t HTT.out (k + 1) he1 (by omega)
     have HD := κ (unq_esc t k he1 he2)
     rw [e1] at he2
     rw [e2] at HD
     have q0 : ((s[k + 1].toNat : Int) == 92) = true := by simp; omega
     clear he2 e1 e2
     by_cases hb : broken s[k + 1 + 1] = true
     ·have HF := κ (show unquote (us s) = ([], 11) by rw [HU.out, HB.out, HD.out, hb]; rfl)
      go_wp2_with (go_at_call 163; refine (brokenR_c _ _).mono ?_; rintro e w' ⟨rfl, rfl⟩)
      go_ret2
      exact ⟨ret_si (by rw [HF.out]; rfl), hB⟩
     ·have hb' : broken s[k + 1 + 1] = false := by simpa using hb
      clear hb
      by_cases hg : 127 < s[k + 1 + 1].toNat
      ·have HF := κ (show unquote (us s) = ([], 11) by rw [HU.out, HB.out, HD.out, hb', decide_eq_true hg]; rfl)
       go_wp2_with (go_at_call 163; refine (brokenR_c _ _).mono ?_; rintro e w' ⟨rfl, rfl⟩)
       go_ret2
       exact ⟨ret_si (by rw [HF.out]; rfl), hB⟩
      ·have hg' : s[k + 1 + 1].toNat ≤ 127 := by omega
       have HS := κ (unq_step HB.out (show unqGo ((us t).drop k) = (unqGo ((us t).drop (k + 2))).map (s[k + 1 + 1] :: ·) by rw [HD.out, hb', decide_eq_false hg]; rfl))
       clear hg
       go_wp2_with (first | (go_at_call 163; refine (brokenR_c _ _).mono ?_; rintro e w' ⟨rfl, rfl⟩) | (at_builtin; refine wpList_appB1 s[k + 1 + 1] rfl rfl rfl Tryz.underlying140 infoB rfl rfl hown hB (ρ _) ?_ ?_; (focus omega); intro v1 w1 ho1 hb1))
       go_roundw
       case rel => exact ⟨k + 2, _, by omega, by simp; omega, ho1, by simp; omega, HS.out, hb1⟩
       case measure => simp [intOf]; omega
    ·have HD := κ (unq_one t k hlt (by omega))
     rw [e1] at HD he
     clear e1
     by_cases hb : bare s[k + 1] = true
     ·have HS := κ (unq_step HB.out (show unqGo ((us t).drop k) = (unqGo ((us t).drop (k + 1))).map (s[k + 1] :: ·) by rw [HD.out, hb]; rfl))
      have q0 : ((s[k + 1].toNat : Int) == 92) = false := by
       have := (bare_iff s[k + 1]).1 hb
       simp; omega
      clear he
      go_wp2_with (first | (go_at_call 164; refine (bareR_c _ _).mono ?_; rintro e w' ⟨rfl, rfl⟩) | (at_builtin; refine wpList_appB1 s[k + 1] rfl rfl rfl Tryz.underlying140 infoB rfl rfl hown hB (ρ _) ?_ ?_; (focus omega); intro v1 w1 ho1 hb1))
      go_roundw
      case rel => exact ⟨k + 1, _, by omega, by simp, ho1, by simp; omega, HS.out, hb1⟩
      case measure => simp [intOf]; omega
     ·have hb' : bare s[k + 1] = false := by simpa using hb
      have HF := κ (show unquote (us s) = ([], 11) by rw [HU.out, HB.out, HD.out, hb']; rfl)
      have hq : (((s[k + 1].toNat : Int) == 92) = true ∧ t.size ≤ k + 1) ∨ ((s[k + 1].toNat : Int) == 92) = false := by
       simp; omega
      clear hb he
      rcases hq with ⟨q0, q1⟩ | q0
      all_goals
       go_wp2_with (go_at_call 164; refine (bareR_c _ _).mono ?_; rintro e w' ⟨rfl, rfl⟩)
       go_ret2
       exact ⟨ret_si (by rw [HF.out]; rfl), hB⟩
   ·have HF := κ (show unquote (us s) = (acc, 0) by rw [HU.out, HB.out, drop_us_end t k (by omega)]; simp [unqGo, okOr])
    go_wp2_with (refine wpList_str rfl rfl Tryz.underlying140 Tryz.underlying5 Tryz.underlying9 rfl hown ?_)
    go_ret2
    exact ⟨ret_si (by rw [HF.out]; simp), hB⟩
end
section
open Go.RowKit
def sixt : ByteArray := ⟨#[48, 49, 50, 51, 52, 53, 54, 55, 56, 57, 65, 66, 67, 68, 69, 70]⟩
theorem sixt_at (i : Nat) (h : i < 16) : ∃ h' : i < sixt.size, sixt[i] = hexd i :=
 ⟨h, (by decide : ∀ i : Fin 16, sixt[i.val]'i.isLt = hexd i.val) ⟨i, h⟩⟩
theorem run_index_at {P : Program} {ty : TypeId} (hty : P.underlying ty = some .string) (s : ByteArray) (k : IntKind) (i : Nat) (h : i < s.size) (w : World) :
  (Instr.index ty (.string s) (.int k (i : Int))).run P w = .ok (.int .u8 s[i].toNat) w := by
 have : s[i]? = some s[i] := getElem?_pos s i h
 have hi : 0 ≤ (i : Int) ∧ (i : Int) < s.size := by omega
 rw [run_index_string w ty s k (i : Int) hty, dif_pos hi]
 rfl
theorem sixt_run {P : Program} {ty : TypeId} (hty : P.underlying ty = some .string) (k : IntKind) (i : Nat) (h : i < 16) {E : Int} (hE : E = (i : Int)) (w : World) :
  (Instr.index ty (.string ⟨#[48, 49, 50, 51, 52, 53, 54, 55, 56, 57, 65, 66, 67, 68, 69, 70]⟩) (.int k E)).run P w = .ok (.int .u8 (hexd i).toNat) w := by
 obtain ⟨h', e⟩ := sixt_at i h
 rw [hE, ← e]
 exact run_index_at hty sixt k i h' w
end
section
open Go.RowKit
def rworth (c : UInt8) : Int := if testc 4 c then worth c else -1
def wmatch (k : Nat) (c : UInt8) : Bool := hexd k == c || low (hexd k) == c
theorem rworth_at (c : UInt8) : ∀ k : Fin 16, wmatch k.val c = true → rworth c = k.val :=
 all_bytes (fun c => ∀ k : Fin 16, wmatch k.val c = true → rworth c = k.val) (by decide +kernel) c
theorem rworth_no (c : UInt8) : (∀ k : Fin 16, wmatch k.val c = false) → rworth c = -1 :=
 all_bytes (fun c => (∀ k : Fin 16, wmatch k.val c = false) → rworth c = -1) (by decide +kernel) c
theorem one_at (k : Nat) (h : k < 16) : us (ByteArray.extract ⟨#[48, 49, 50, 51, 52, 53, 54, 55, 56, 57, 65, 66, 67, 68, 69, 70]⟩ k (k + 1)) = [hexd k] := by
 have := (by decide : ∀ k : Fin 16, us (ByteArray.extract ⟨#[48, 49, 50, 51, 52, 53, 54, 55, 56, 57, 65, 66, 67, 68, 69, 70]⟩ k.val (k.val + 1)) = [hexd k.val])
 exact this ⟨k, h⟩
theorem lowerR_one (s : ByteArray) (c : UInt8) (h : us s = [c]) (w : World) :
  Calls Tryz.prog 123 #[.string s] w fun e w' => e = .returned (.string (bs [low c])) ∧ Below w.heap.size w w' := by
 have := lowerR_c s (by rw [← length_us, h]; simp) w
 rw [h] at this
 exact this
set_option maxHeartbeats 1600000 in
theorem worthR_c (c : UInt8) (w : World) :
  Calls Tryz.prog 193 #[.int .u8 c.toNat] w fun e w' => e = .returned (.int .i64 (rworth c)) ∧ Below w.heap.size w w' := by
 go_enter Tryz.func193, Tryz.ntmps193
 go_wp2
 go_loopw [3] (fun i wr => ∃ k : Nat, k ≤ 16 ∧ i = .int .i64 k ∧ (∀ j, j < k → wmatch j c = false) ∧ Below w.heap.size w wr) (fun i _ => 16 - (intOf i).toNat)
 case atStart => exact ⟨0, by omega, rfl, fun j hj => by omega, Below.refl _ _⟩
 case round =>
  obtain ⟨k, hk, rfl, hno, hB⟩ := hrel
  have HN := κ hno; clear hno
  by_cases hlt : k < 16
  ·have i1 := fun wx => sixt_run (P := Tryz.prog) Tryz.underlying9 .i64 k hlt rfl wx
   have ho := κ (one_at k hlt)
   have hm := κ (rworth_at c ⟨k, hlt⟩)
   by_cases h1 : hexd k = c
   ·have q1 : (((hexd k).toNat : Int) == (c.toNat : Int)) = true := by rw [h1]; simp
    have HM := κ (show rworth c = k from hm.out (by simp [wmatch, h1]))
    clear h1
    go_wp2
    go_ret
    exact ⟨ret_int HM.out.symm, hB⟩
   ·have q1 : (((hexd k).toNat : Int) == (c.toNat : Int)) = false := by
     simp; intro e; exact h1 (UInt8.toNat_inj.1 (by omega))
    by_cases h2 : low (hexd k) = c
    ·have q2 : (((low (hexd k)).toNat : Int) == (c.toNat : Int)) = true := by rw [h2]; simp
     have HM := κ (show rworth c = k from hm.out (by simp [wmatch, h2]))
     clear h1 h2
     go_wp2_with (go_at_call 123; refine (lowerR_one _ (hexd k) ho.out _).mono ?_; rintro e w1 ⟨rfl, hB1⟩)
     go_ret
     exact ⟨ret_int HM.out.symm, hB.trans (hB1.mono hB.size)⟩
    ·have q2 : (((low (hexd k)).toNat : Int) == (c.toNat : Int)) = false := by
      simp; intro e; exact h2 (UInt8.toNat_inj.1 (by omega))
     have HK := κ (show wmatch k c = false by simp [wmatch, h1, h2])
     clear h1 h2
     go_wp2_with (go_at_call 123; refine (lowerR_one _ (hexd k) ho.out _).mono ?_; rintro e w1 ⟨rfl, hB1⟩)
     go_roundw
     case rel => exact ⟨k + 1, by omega, by go_num, fun j hj => by
      rcases Nat.lt_or_ge j k with h | h
      ·exact HN.out j h
      ·have : j = k := by omega
       rw [this]; exact HK.out, hB.trans (hB1.mono hB.size)⟩
     case measure => simp [intOf]; omega
  ·have HM := κ (show rworth c = -1 from rworth_no c fun j => HN.out j.val (by have := j.isLt; omega))
   go_wp2
   go_ret
   exact ⟨ret_int HM.out.symm, hB⟩
end
section
open Go.RowKit
theorem worthR_v (c : UInt8) (b : Bool) (h : testc 4 c = b) (w : World) :
  Calls Tryz.prog 193 #[.int .u8 c.toNat] w fun e w' => e = .returned (.int .i64 (if b then (worth c : Int) else -1)) ∧ Below w.heap.size w w' := by
 have := worthR_c c w
 unfold rworth at this
 rw [h] at this
 exact this
theorem nmR : (Tryz.f193.name == "runtime.NumGoroutine") = false := by kernel_rfl
theorem bdR : Tryz.f193.body.isNone = false := by kernel_rfl
theorem hex_add (a b : Nat) (ha : a < 16) (hb : b < 16) : IntKind.u8.wrap (IntKind.i64.wrap (IntKind.i64.wrap (16 * (a : Int)) + (b : Int))) = ((UInt8.ofNat (16 * a + b)).toNat : Int) := by
 have := (by decide +kernel : ∀ a b : Fin 16, IntKind.u8.wrap (IntKind.i64.wrap (IntKind.i64.wrap (16 * (a.val : Int)) + (b.val : Int))) = ((UInt8.ofNat (16 * a.val + b.val)).toNat : Int))
 exact this ⟨a, ha⟩ ⟨b, hb⟩
set_option maxHeartbeats 3200000 in
theorem unescapeR_c (s : ByteArray) (hs : s.size ≤ 140737488355328) (w : World) :
  Calls Tryz.prog 170 #[.string s] w fun e w' => e = .returned (.tuple #[.string (bs (unescape (us s)).1), .int .i64 (unescape (us s)).2]) ∧ Below w.heap.size w w' := by
 go_enter Tryz.func170, Tryz.ntmps170
 go_wp2
 go_loopw [4, 5] (fun v i wr => ∃ (k : Nat) (acc : List UInt8), k ≤ s.size ∧ i = .int .i64 k ∧ Byt wr w.heap.size 5 v acc ∧ acc.length ≤ k ∧ unesc (us s) = (unesc ((us s).drop k)).map (acc ++ ·) ∧ Below w.heap.size w wr) (fun _ i _ => s.size - (intOf i).toNat)
 case atStart => exact ⟨0, [], Nat.zero_le _, rfl, Byt.nil _ _ _, ρ _, by simp, Below.refl _ _⟩
 case round =>
  obtain ⟨k, acc, hk, rfl, hown, hal, hu, hB⟩ := hrel
  have HB := κ hu; clear hu
  by_cases hlt : k < s.size
  ·by_cases hc : s[k].toNat = 37
   ·have q0 : ((s[k].toNat : Int) != 37) = false := by simp; omega
    by_cases h2 : k + 2 < s.size
    ·have HD := κ (unesc_two s k h2 hc)
     clear hc
     cases ta : testc 4 s[k + 1] with
     | false =>
      have HF := κ (show unescape (us s) = ([], 12) by rw [unescape, HB.out, HD.out, ta]; rfl)
      go_wp2_with (go_at_call 193; refine (worthR_v s[k + 1] false ta _).mono ?_; rintro e w1 ⟨rfl, hB1⟩)
      go_ret2
      exact ⟨ret_si (by rw [HF.out]; rfl), hB.trans (hB1.mono hB.size)⟩
     | true =>
      cases tb : testc 4 s[k + 2] with
      | false =>
       have HF := κ (show unescape (us s) = ([], 12) by rw [unescape, HB.out, HD.out, ta, tb]; rfl)
       have wa := (worth_v _ ta).2.2
       go_wp2_with fail
       refine (worthR_v s[k + 1] true ta _).mono ?_
       rintro e w1 ⟨rfl, hB1⟩
       go_wp2_with fail
       refine (worthR_v s[k + 2] false tb _).mono ?_
       rintro e w2 ⟨rfl, hB2⟩
       go_wp2_with fail
       go_ret2
       exact ⟨ret_si (by rw [HF.out]; rfl), hB.trans ((hB1.mono hB.size).trans (hB2.mono (Nat.le_trans hB.size hB1.size)))⟩
      | true =>
       have HS := κ (unq_step HB.out (show unesc ((us s).drop k) = (unesc ((us s).drop (k + 3))).map (UInt8.ofNat (16 * worth s[k + 1] + worth s[k + 2]) :: ·) by rw [HD.out, ta, tb]; rfl))
       have wa := (worth_v _ ta).2.2
       have wb := (worth_v _ tb).2.2
       have TA := κ ta
       have TB := κ tb
       go_wp2_with fail
       refine (worthR_v s[k + 1] true ta _).mono ?_
       rintro e w1 ⟨rfl, hB1⟩
       go_wp2_with fail
       refine (worthR_v s[k + 2] true tb _).mono ?_
       rintro e w2 ⟨rfl, hB2⟩
       go_wp2_with fail
       have hown2 := (hown.below hB1 (ρ _)).below hB2 (ρ _)
       have hBB := hB.trans ((hB1.mono hB.size).trans (hB2.mono (Nat.le_trans hB.size hB1.size)))
       clear ta tb hown hB hB1 hB2
       have p1 : k + 1 < s.size := by omega
       have p2 : k + 2 < s.size := by omega
       have hbd : acc.length + 1 ≤ 140737488355328 := by omega
       have k1 : (0 : Int) ≤ (k : Int) + 1 := by omega
       have k2 : (k : Int) + 1 < (s.size : Int) := by omega
       have k3 : (0 : Int) ≤ (k : Int) + 2 := by omega
       have k4 : (k : Int) + 2 < (s.size : Int) := by omega
       have k5 : ((k : Int) + 1).toNat = k + 1 := by omega
       have k6 : ((k : Int) + 2).toNat = k + 2 := by omega
       have k7 : IntKind.i64.wrap ((k : Int) + 1) = (k : Int) + 1 := IntWalk.i64_in _ (by omega)
       have k8 : IntKind.i64.wrap ((k : Int) + 2) = (k : Int) + 2 := IntWalk.i64_in _ (by omega)
       go_region_law (first | (refine step_callB1 (v0 := .int .u8 (s[k + 1]'p1).toNat) (v := .int .i64 (worth (s[k + 1]'p1))) rfl rfl Tryz.func193 nmR bdR ?_ ?_ ?_; (focus rfl); (focus (exact worthR_v _ true TA.out _)); intro w3 hB3) | (refine step_callB1 (v0 := .int .u8 (s[k + 2]'p2).toNat) (v := .int .i64 (worth (s[k + 2]'p2))) rfl rfl Tryz.func193 nmR bdR ?_ ?_ ?_; (focus rfl); (focus (exact worthR_v _ true TB.out _)); intro w4 hB4) | (refine step_appB1 (UInt8.ofNat (16 * worth (s[k + 1]'p1) + worth (s[k + 2]'p2))) (hex_add _ _ wa wb) rfl rfl Tryz.underlying140 infoB rfl rfl ((hown2.drew.below hB3 (ρ _)).below hB4 (ρ _)) (hBB.drew.trans ((hB3.mono hBB.drew.size).trans (hB4.mono (Nat.le_trans hBB.drew.size hB3.size)))) (ρ _) hbd ?_; intro v1 w5 ho1 hb1))
       all_goals
        try clear k7
        try clear k8
        try clear k5
        try clear k6
        go_wp2
        go_roundw
        case rel => exact ⟨k + 3, _, by omega, by go_num, ho1, by simp; omega, HS.out, hb1⟩
        case measure => simp [intOf]; omega
    ·have HF := κ (show unescape (us s) = ([], 12) by rw [unescape, HB.out, unesc_short s k hlt (by omega) hc]; rfl)
     clear hc
     go_wp2
     go_ret2
     exact ⟨ret_si (by rw [HF.out]; rfl), hB⟩
   ·have q0 : ((s[k].toNat : Int) != 37) = true := by simp; omega
    have HS := κ (unq_step HB.out (unesc_plain s k hlt hc))
    clear hc
    go_wp2_with (at_builtin; refine wpList_appB1 s[k] rfl rfl rfl Tryz.underlying140 infoB rfl rfl hown hB (ρ _) ?_ ?_; (focus omega); intro v1 w1 ho1 hb1)
    go_roundw
    case rel => exact ⟨k + 1, _, by omega, by go_num, ho1, by simp; omega, HS.out, hb1⟩
    case measure => simp [intOf]; omega
  ·have HF := κ (show unescape (us s) = (acc, 0) by rw [unescape, HB.out, drop_us_end s k (by omega)]; simp [unesc, okOr])
   go_wp2_with (refine wpList_str rfl rfl Tryz.underlying140 Tryz.underlying5 Tryz.underlying9 rfl hown ?_)
   go_ret2
   exact ⟨ret_si (by rw [HF.out]; simp), hB⟩
end
section
open Go.RowKit
theorem strCells_us (s : ByteArray) : Lib.strCells s = (us s).map bv := by
 simp [Lib.strCells, us, bv]
theorem wpList_appStr {P : Program} {ops : Array Oper} {rest : List Oper} {o : Oper} {a : Act} {Q : Exit → Act → World → Prop} {wE w : World} {base : Nat} {e t u : TypeId} {v : Value} {l : List UInt8} {s x : Operand} {S : ByteArray} (m : List UInt8) (hS : us S = m)
  (hgd : o.guard = none) (ho : o.op = .call { callee := .builtin .append, args := #[s, x], argTypes := #[t, u] })
  (ht : P.underlying t = some (.slice e)) (hu : P.underlying u = some .string) (hi : infoIs P e (.int .u8 0) 1 1)
  (hx : a.eval x = .string S) (hs : a.eval s = v) (hown : Byt w base e v l) (hB : Below base wE w) (hbase : base ≤ wE.heap.size)
  (hbd : l.length + m.length ≤ 140737488355328)
  (h : ∀ v' w', Byt w' base e v' (l ++ m) → Below base wE w' → wpList P ops Q rest (a.put o.dst v') w') :
  wpList P ops Q (o :: rest) a w := by
 subst hS
 obtain ⟨i, hi0, hi1, hi2, hi3⟩ := info_parts hi
 have hz := hB.size
 rw [length_us] at hbd
 refine Lib.wpList_append_own_string _ hgd s x t u ho base e i ht hu hi0 hi1 hi2 hi3 v l.length (l.map bv) hs hown S hx (by simp only [maxLen]; omega) hbd (by omega) ?_
 intro v' w' h1 hg _
 refine h v' w' ?_ (hB.grown hg (by omega) fun k hk => ((World.ownsRow.lt hown) k hk).1)
 unfold Byt
 rw [strCells_us] at h1
 simpa [length_us] using h1
theorem glue_snoc (sep : List UInt8) (L : List (List UInt8)) (x : List UInt8) (h : L ≠ []) : glue sep (L ++ [x]) = glue sep L ++ (sep ++ x) := by
 induction L with
 | nil => exact absurd rfl h
 | cons y r ih =>
  cases r with
  | nil => simp [glue]
  | cons z r' =>
   have := ih (by simp)
   simp only [List.cons_append] at this ⊢
   rw [glue, this, glue]
   simp
theorem take_snoc (L : List (List UInt8)) (k : Nat) (h : k < L.length) : L.take (k + 1) = L.take k ++ [L[k]] := List.take_succ_eq_append_getElem h
theorem glue_step (sep : List UInt8) (L : List (List UInt8)) (k : Nat) (h : k < L.length) (h0 : 0 < k) : glue sep (L.take (k + 1)) = (glue sep (L.take k) ++ sep) ++ L[k] := by
 rw [take_snoc L k h, glue_snoc sep _ _ (by intro e; have := congrArg List.length e; rw [List.length_take, List.length_nil] at this; omega)]
 simp
theorem glue_first (sep : List UInt8) (L : List (List UInt8)) (h : 0 < L.length) : glue sep (L.take 1) = L[0] := by
 rw [take_snoc L 0 h]; rfl
theorem glue_le (sep : List UInt8) (L : List (List UInt8)) (k : Nat) : (glue sep (L.take k)).length ≤ (glue sep L).length := by
 rcases Nat.lt_or_ge k L.length with h | h
 ·have : ∀ d, k + d ≤ L.length → (glue sep (L.take k)).length ≤ (glue sep (L.take (k + d))).length := by
   intro d
   induction d with
   | zero => intro _; exact ρ _
   | succ d ih =>
    intro hd
    refine Nat.le_trans (ih (by omega)) ?_
    rw [show k + (d + 1) = (k + d) + 1 from by omega]
    rcases Nat.eq_zero_or_pos (k + d) with h0 | h0
    ·rw [h0]; simp [glue]
    ·rw [glue_step sep L (k + d) (by omega) h0]; simp
  have := this (L.length - k) (by omega)
  rwa [show k + (L.length - k) = L.length from by omega, List.take_length] at this
 ·rw [List.take_of_length_le h]; exact ρ _
set_option maxHeartbeats 1600000 in
theorem glue_c (v : Value) (L : List (List UInt8)) (s : ByteArray) (w : World) (h1 : RStrs w v L) (hbd : (glue (us s) L).length ≤ 140737488355328) :
  Calls Tryz.prog 173 #[v, .string s] w fun e w' => e = .returned (.string (bs (glue (us s) L))) ∧ Below w.heap.size w w' := by
 obtain ⟨ao, cap, rfl, hm1, c1⟩ := h1.form
 have C1 := κ c1
 have HBD := κ hbd
 clear c1 h1 hbd
 unfold maxLen at hm1
 go_enter Tryz.func173, Tryz.ntmps173
 go_wp2
 go_loopw [5, 6] (fun v i wr => ∃ k : Nat, k ≤ L.length ∧ i = .int .i64 k ∧ Byt wr w.heap.size 5 v (glue (us s) (L.take k)) ∧ Below w.heap.size w wr) (fun _ i _ => L.length - (intOf i).toNat)
 case atStart => exact ⟨0, Nat.zero_le _, rfl, Byt.nil _ _ _, Below.refl _ _⟩
 case round =>
  obtain ⟨k, hk, rfl, hown, hB⟩ := hrel
  by_cases hlt : k < L.length
  ·obtain ⟨b, off, rfl, hb1, hc1⟩ := C1.out (by omega)
   have x1 : wr.cell? ⟨b, off + k, none⟩ = some (.string (bs L[k])) := by
    rw [hB.cell (p := ⟨b, off + k, none⟩) hb1]; exact hc1 k hlt
   clear hc1
   have hle := κ (Nat.le_trans (glue_le (us s) L (k + 1)) HBD.out)
   by_cases h0 : 0 < k
   ·have hg := κ (glue_step (us s) L k hlt h0)
    go_wp2_with (first | (at_builtin; refine wpList_appStr (us s) rfl rfl rfl Tryz.underlying140 Tryz.underlying9 infoB rfl rfl hown hB (ρ _) ?_ ?_; (focus (have := hle.out; rw [hg.out, List.length_append, List.length_append] at this; omega)); intro v1 w1 ho1 hb1; have x1' := (hb1.cell (p := ⟨b, off + k, none⟩) (by assumption)).trans ((hB.cell (p := ⟨b, off + k, none⟩) (by assumption)).symm.trans x1)) | (at_builtin; refine wpList_appStr L[k] (us_bs _) rfl rfl Tryz.underlying140 Tryz.underlying9 infoB rfl rfl ho1 hb1 (ρ _) ?_ ?_; (focus (have := hle.out; rw [hg.out, List.length_append] at this; omega)); intro v2 w2 ho2 hb2))
    go_roundw
    case rel => exact ⟨k + 1, by omega, by go_num, ho2.cast hg.out.symm, hb2⟩
    case measure => simp [intOf]; omega
   ·obtain rfl : k = 0 := by omega
    rw [Nat.add_zero] at x1
    have hg := κ (glue_first (us s) L hlt)
    go_wp2_with (at_builtin; refine wpList_appStr L[0] (us_bs _) rfl rfl Tryz.underlying140 Tryz.underlying9 infoB rfl rfl hown hB (ρ _) ?_ ?_; (focus (have := hle.out; rw [hg.out] at this; simpa [glue] using this)); intro v2 w2 ho2 hb2)
    go_roundw
    case rel => exact ⟨1, by omega, rfl, ho2.cast (by rw [hg.out]; rfl), hb2⟩
    case measure => simp [intOf]; omega
  ·have hg := κ (show L.take k = L from List.take_of_length_le (by omega))
   go_wp2_with (refine wpList_str rfl rfl Tryz.underlying140 Tryz.underlying5 Tryz.underlying9 rfl hown ?_)
   go_ret
   exact ⟨ret_bs (by rw [us_bs]; first | rfl | rw [hg.out]), hB⟩
end
section
open Go.RowKit
theorem digF_more : ∀ (f n : Nat), n < 10 ^ f → 0 < f → digF (f + 1) n = digF f n
 | 0, _, _, h => absurd h (by decide)
 | f + 1, n, hn, _ => by
  by_cases h : n < 10
  ·simp only [digF, if_pos h]
  ·have hf : 0 < f := by
    rcases Nat.eq_zero_or_pos f with h0 | h0
    ·subst h0; simp at hn; omega
    ·exact h0
   have hd : n / 10 < 10 ^ f := Nat.div_lt_of_lt_mul (by rw [Nat.mul_comm]; exact hn)
   rw [digF, if_neg h, digF_more f (n / 10) hd hf, digF, if_neg h]
theorem digits_small (n : Nat) (h : n < 10) : digits n = [dig n] := by
 unfold digits; rw [if_neg (by omega), Int.toNat_natCast]; simp only [digF, if_pos h]
theorem digits_step (n : Nat) (h : 10 ≤ n) (hn : n < 10000000000000000000) : digits n = digits ((n / 10 : Nat) : Int) ++ [dig (n % 10)] := by
 unfold digits; rw [if_neg (by omega), if_neg (by omega), Int.toNat_natCast, Int.toNat_natCast]
 rw [show digF 20 n = digF 19 (n / 10) ++ [dig (n % 10)] from by rw [digF, if_neg (by omega)]]
 rw [digF_more 19 (n / 10) (by omega) (by decide)]
theorem ten_at (k : Nat) (h : k < 10) : us (ByteArray.extract ⟨#[48, 49, 50, 51, 52, 53, 54, 55, 56, 57]⟩ k (k + 1)) = [dig k] := by
 have := (by decide : ∀ k : Fin 10, us (ByteArray.extract ⟨#[48, 49, 50, 51, 52, 53, 54, 55, 56, 57]⟩ k.val (k.val + 1)) = [dig k.val])
 exact this ⟨k, h⟩
set_option maxHeartbeats 800000 in
theorem digitsR_n (f : Nat) : ∀ (n : Int) (w : World), 0 ≤ n → n < f → n ≤ 9223372036854775807 →
  Calls Tryz.prog 136 #[.int .i64 n] w fun e w' => e = .returned (.string (bs (digits n))) ∧ Drn w w' := by
 induction f with
 | zero => intro n w h; omega
 | succ f ih =>
  intro n w h0 hf hn
  obtain ⟨k, rfl⟩ : ∃ k : Nat, n = (k : Int) := ⟨n.toNat, by omega⟩
  by_cases h : k < 10
  ·have HS := κ (digits_small k h)
   have HT := κ (ten_at k h)
   go_enter Tryz.func136, Tryz.ntmps136
   go_wp2_with fail
   go_ret
   exact ⟨ret_bs (by rw [HS.out]; exact HT.out), Drn.refl _⟩
  ·have HS := κ (digits_step k (by omega) (by omega))
   have HT := κ (ten_at (k % 10) (by omega))
   have h' : 10 ≤ k := by omega
   have e1 : (k : Int) / 10 = ((k / 10 : Nat) : Int) := by omega
   have IH := κ (fun wx => ih ((k : Int) / 10) wx (by omega) (by omega) (by omega))
   rw [← e1] at HS
   clear h ih e1
   have k1 : (0 : Int) ≤ (k : Int) % 10 := by omega
   have k2 : (k : Int) % 10 ≤ (k : Int) % 10 + 1 := by omega
   have k3 : (k : Int) % 10 + 1 ≤ 10 := by omega
   have k4 : ((k : Int) % 10).toNat = k % 10 := by omega
   have k5 : ((k : Int) % 10 + 1).toNat = k % 10 + 1 := by omega
   have k6 : (0 : Int) ≤ (k : Int) % 10 + 1 := by omega
   have hl : (digits ((k : Int) / 10)).length ≤ 20 := digits_len _
   have hse : ((⟨#[48, 49, 50, 51, 52, 53, 54, 55, 56, 57]⟩ : ByteArray).extract (k % 10) (k % 10 + 1)).size ≤ 1 := by
    rw [← length_us, HT.out]; exact ρ _
   have k7 : IntKind.i64.wrap ((k : Int) % 10 + 1) = (k : Int) % 10 + 1 := IntWalk.i64_in _ (by omega)
   go_enter Tryz.func136, Tryz.ntmps136
   go_wp2_with fail
   go_quiet ((go_at_call 136; exact Calls.quiet_of (IH.out _)))
   go_wp2
   go_ret
   exact ⟨ret_bs (by rw [HS.out, us_append, us_bs, HT.out]), _, rfl⟩
theorem digitsR_c (n : Int) (h0 : -9223372036854775808 ≤ n) (h1 : n ≤ 9223372036854775807) (w : World) :
  Calls Tryz.prog 136 #[.int .i64 n] w fun e w' => e = .returned (.string (bs (digits n))) ∧ Drn w w' := by
 by_cases h : n < 0
 ·have HN := κ (digits_neg n h)
  go_enter Tryz.func136, Tryz.ntmps136
  go_wp2
  go_ret
  exact ⟨by rw [HN.out]; rfl, Drn.refl _⟩
 ·exact digitsR_n (n.toNat + 1) n w (by omega) (by omega) h1
end
section
open Go.RowKit
theorem cutb_len (c : UInt8) : ∀ l : List UInt8, (cutb c l).2.2 = true → (cutb c l).1.length + (cutb c l).2.1.length + 1 = l.length
 | [], h => by cases h
 | x :: r, h => by
  by_cases hx : x.toNat = c.toNat
  ·rw [cutb, if_pos hx]; simp
  ·rw [cutb, if_neg hx] at h ⊢
   have := cutb_len c r h
   simp; omega
def moreN (s m : Value) : Nat := match s, m with | .string x, .bool true => x.size + 1 | _, _ => 0
set_option maxHeartbeats 800000 in
theorem splitR_c (s : ByteArray) (hs : s.size ≤ 4294967280) (c : UInt8) (w : World) :
  Calls Tryz.prog 127 #[.string s, .int .u8 c.toNat] w fun e w' => ∃ v, e = .returned v ∧ RStrs w' v (splitc c (us s)) ∧ Below w.heap.size w w' := by
 have hlen := splitc_len c (us s)
 rw [length_us] at hlen
 go_enter Tryz.func127, Tryz.ntmps127
 go_wp2
 go_loopw [0, 5, 6] (fun t v m wr => ∃ (r : ByteArray) (b : Bool) (L : List (List UInt8)), r.size ≤ s.size ∧ t = .string r ∧ m = .bool b ∧ Strs wr w.heap.size 9 v L ∧ splitc c (us s) = L ++ more c (us r) b ∧ Below w.heap.size w wr) (fun t _ m _ => moreN t m)
 case atStart => exact ⟨s, true, [], ρ _, rfl, rfl, Strs.nil _ _ _, rfl, Below.refl _ _⟩
 case round =>
  obtain ⟨r, b, L, hr, rfl, rfl, hown, hp, hB⟩ := hrel
  have HO := κ hown; clear hown
  cases b with
  | false =>
   have HP := κ (show splitc c (us s) = L by rw [hp]; simp [more])
   clear hp
   go_wp2
   go_ret
   exact ⟨_, rfl, HP.out ▸ HO.out.read, hB⟩
  | true =>
   have hsp : splitc c (us s) = (L ++ [(cutb c (us r)).1]) ++ more c (cutb c (us r)).2.1 (cutb c (us r)).2.2 := by
    rw [hp]; unfold more; rw [if_pos rfl, splitc_cut]; simp
   have hl : (L.length + 1) * 16 ≤ 140737488355328 := by
    have := congrArg List.length hsp
    rw [List.length_append, List.length_append] at this
    simp at this
    omega
   have HCT := κ (fun wx => cutR_c r (by omega) c wx)
   have hc1 := (cutb_le c (us r)).2
   have hc2 := cutb_len c (us r)
   rw [length_us] at hc1 hc2
   have HC2 := κ hc2
   clear hp hc2
   obtain ⟨p, hpp⟩ : ∃ p, p = cutb c (us r) := ⟨_, rfl⟩
   rw [← hpp] at hsp HCT hc1 HC2
   clear hpp
   obtain ⟨a, q, m⟩ := p
   have HS := κ hsp
   clear hsp
   have HB := κ hB
   clear hB
   go_wp2_with (first | (go_at_call 122; refine (HCT.out _).mono ?_; rintro e w1 ⟨rfl, hD⟩; have ho1 := HO.out.below (hD.below (B := wr.heap.size)) (ρ _); have hb1 := HB.out.trans (hD.below (B := w.heap.size))) | (at_builtin; refine wpList_appS1 a (us_bs _) rfl rfl Tryz.underlying30 infoS rfl rfl ho1 hb1 (ρ _) ?_ ?_; (focus omega); intro v2 w2 ho2 hb2))
   go_roundw
   case rel => exact ⟨bs q, m, L ++ [a], by rw [size_bs]; omega, rfl, rfl, ho2, by rw [us_bs]; exact HS.out, hb2⟩
   case measure =>
    have := HC2.out
    cases m
    ·simp [moreN]
    ·have h2 := this rfl
     simp [moreN, size_bs] at h2 ⊢; omega
end
section
open Go.RowKit
set_option maxHeartbeats 1600000 in
theorem hostR_six (s : ByteArray) (h1 : 1 ≤ s.size) (h64 : s.size ≤ 64) (hb : s[0].toNat = 91) (hlow : lowr (us s) = us s) (w : World) :
  Calls Tryz.prog 165 #[.string s] w fun e w' => e = .returned (.bool (sixS (us s))) ∧ Below w.heap.size w w' := by
 have HL := κ (fun wx => lowerR_c s (by omega) wx)
 rw [hlow, bs_us] at HL
 have t1 : ((s[0].toNat : Int) == 91) = true := by simp [hb]
 have hz : ((s.size : Int) == 0) = false := by rw [beq_eq_false_iff_ne]; omega
 clear hlow hb
 go_enter Tryz.func165, Tryz.ntmps165
 go_wp2_with (go_at_call 123; refine (HL.out _).mono ?_; rintro e w1 ⟨rfl, hC⟩)
 go_loop [3, 4] (fun n i => ∃ k : Nat, 1 ≤ k ∧ (k = 1 ∨ k + 1 ≤ s.size) ∧ i = .int .i64 k ∧ n = .int .i64 (colons (inner (us s) k) : Nat) ∧ (inner (us s) k).all sixb = true) (fun _ i => s.size - (intOf i).toNat)
 case atStart => exact ⟨1, ρ _, .inl rfl, rfl, by rw [inner_one]; rfl, by rw [inner_one]; rfl⟩
 case round =>
  obtain ⟨k, hk0, hk, rfl, rfl, hb⟩ := hrel
  have HB := κ hb; clear hb
  have hcl : colons (inner (us s) k) ≤ s.size := by rw [← length_us]; exact colons_le _ _
  by_cases hlt : k + 1 < s.size
  ·by_cases c1 : s[k].toNat = 58
   ·have a1 : ((s[k].toNat : Int) == 58) = true := by simp [c1]
    have HA := κ (inner_all s k hk0 (by omega) (sixb_colon _ c1) HB.out)
    have HC := κ (colons_yes s k hk0 (by omega) c1)
    clear c1
    go_wp2
    go_round
    case rel => exact ⟨k + 1, by omega, by omega, by go_num, by rw [HC.out]; go_num, HA.out⟩
    case measure => simp [intOf]; omega
   ·have a1 : ((s[k].toNat : Int) == 58) = false := by simp; omega
    have HC := κ (colons_no s k hk0 (by omega) c1)
    by_cases c2 : s[k].toNat = 46
    ·have a2 : ((s[k].toNat : Int) != 46) = false := by simp [c2]
     have HA := κ (inner_all s k hk0 (by omega) (sixb_dot _ c2) HB.out)
     clear c1 c2
     go_wp2
     go_round
     case rel => exact ⟨k + 1, by omega, by omega, by go_num, by rw [HC.out], HA.out⟩
     case measure => simp [intOf]; omega
    ·have a2 : ((s[k].toNat : Int) != 46) = true := by simp; omega
     by_cases ht : (bits BinOp.and IntKind.i64 (cls s[k]) 4 == 0) = true
     ·have HN := κ (sixS_bad s (inner_bad s k hk0 hlt (sixb_no _ c1 c2 (testc_t 4 _ ht))))
      clear c1 c2
      go_wp2_with (go_at_call 162; refine (classR_c _ _).mono ?_; rintro e w' ⟨rfl, rfl⟩)
      go_ret
      exact ⟨ret_bool (by rw [HN.out]), hC⟩
     ·have ht' : (bits BinOp.and IntKind.i64 (cls s[k]) 4 == 0) = false := by simpa using ht
      clear ht
      have HA := κ (inner_all s k hk0 (by omega) (sixb_hex _ (testc_f 4 _ ht')) HB.out)
      clear c1 c2
      go_wp2_with (go_at_call 162; refine (classR_c _ _).mono ?_; rintro e w' ⟨rfl, rfl⟩)
      go_round
      case rel => exact ⟨k + 1, by omega, by omega, by go_num, by rw [HC.out], HA.out⟩
      case measure => simp [intOf]; omega
  ·by_cases h4 : s.size < 4
   ·have HN := κ (sixS_short (us s) (by rw [length_us]; exact h4))
    go_wp2
    all_goals
     go_ret
     exact ⟨ret_bool (by rw [HN.out]; try (simp; omega)), hC⟩
   ·obtain rfl : k = s.size - 1 := by omega
    have q1 : s.size - 1 < s.size := by omega
    have q2 : (0 : Int) ≤ (s.size : Int) - 1 := by omega
    have q3 : ((s.size : Int) - 1).toNat = s.size - 1 := by omega
    by_cases hl : s[s.size - 1].toNat = 93
    ·have HX := κ (sixS_end s (by omega) hl HB.out)
     have t2 : ((s[s.size - 1].toNat : Int) == 93) = true := by simp [hl]
     clear hl
     go_wp2
     all_goals
      go_ret
      exact ⟨ret_bool (by rw [HX.out]; simp; omega), hC⟩
    ·have HN := κ (sixS_last s (by omega) hl)
     have t2 : ((s[s.size - 1].toNat : Int) == 93) = false := by simp; omega
     clear hl
     go_wp2
     all_goals
      go_ret
      exact ⟨ret_bool (by rw [HN.out]), hC⟩
set_option maxHeartbeats 1600000 in
theorem hostR_c (s : ByteArray) (hs : s.size ≤ 4294967280) (w : World) :
  Calls Tryz.prog 165 #[.string s] w fun e w' => e = .returned (.bool (hostS (us s))) ∧ Below w.heap.size w w' := by
 have hR : Below w.heap.size w w := Below.refl _ _
 by_cases hz : s.size = 0
 ·have HN := κ (host_no (us s) (.inl (by rw [length_us]; exact hz)))
  have hz' : ((s.size : Int) == 0) = true := by simp [hz]
  clear hz
  go_enter Tryz.func165, Tryz.ntmps165
  go_wp2
  all_goals
   go_ret
   exact ⟨ret_bool (by rw [HN.out]), hR⟩
 have hz' : ((s.size : Int) == 0) = false := by rw [beq_eq_false_iff_ne]; omega
 by_cases h64 : 64 < s.size
 ·have HN := κ (host_no (us s) (.inr (.inl (by rw [length_us]; exact h64))))
  go_enter Tryz.func165, Tryz.ntmps165
  go_wp2
  all_goals
   go_ret
   exact ⟨ret_bool (by rw [HN.out]), hR⟩
 have HL := κ (fun wx => lowerR_c s (by omega) wx)
 by_cases hlow : lowr (us s) = us s
 case neg =>
  have HN := κ (host_no (us s) (.inr (.inr hlow)))
  obtain ⟨t, ht⟩ : ∃ t, t = bs (lowr (us s)) := ⟨_, rfl⟩
  have hne : (t.toList == s.toList) = false := by
   rw [toList_us, toList_us, ht, us_bs, beq_eq_false_iff_ne]; exact hlow
  rw [← ht] at HL
  clear ht hlow
  go_enter Tryz.func165, Tryz.ntmps165
  go_wp2_with (go_at_call 123; refine (HL.out _).mono ?_; rintro e w1 ⟨rfl, hC⟩)
  go_ret
  exact ⟨ret_bool (by rw [HN.out]), hC⟩
 case pos =>
  have h0 : 0 < s.size := by omega
  by_cases hb : s[0].toNat = 91
  ·rw [host_six s h0 (by omega) hlow hb]
   exact hostR_six s h0 (by omega) hb hlow w
  ·rw [hlow, bs_us] at HL
   have HN := κ (host_split s h0 (by omega) hlow hb)
   have H6 := κ (fun wx => splitR_c s (by omega) 46 wx)
   have t1 : ((s[0].toNat : Int) == 91) = false := by simp; omega
   have HBD := κ (fun p hp => Nat.le_trans (splitc_bd 46 (us s) p hp) (by rw [length_us]; exact hs))
   clear hlow hb
   obtain ⟨L, hL⟩ : ∃ L, L = splitc 46 (us s) := ⟨_, rfl⟩
   rw [← hL] at HN H6 HBD
   clear hL
   go_enter Tryz.func165, Tryz.ntmps165
   go_wp2_with (first | (go_at_call 123; refine (HL.out _).mono ?_; rintro e w1 ⟨rfl, hC⟩) | (go_at_call 127; refine (H6.out _).mono ?_; rintro e w2 ⟨v, rfl, hv, hC2⟩; obtain ⟨ao, cap, rfl, hm1, c1⟩ := hv.form; have C1 := κ c1; clear c1 hv; have HW := κ (hC.trans (hC2.mono hC.size)); clear hC hC2))
   unfold maxLen at hm1
   go_loop [6] (fun i => ∃ k : Nat, k ≤ L.length ∧ i = .int .i64 k ∧ (L.take k).all label = true) (fun i => L.length - (intOf i).toNat)
   case atStart => exact ⟨0, Nat.zero_le _, rfl, rfl⟩
   case round =>
    obtain ⟨k, hk, rfl, hb⟩ := hrel
    have HB := κ hb; clear hb
    by_cases hlt : k < L.length
    ·obtain ⟨b, off, rfl, hb1, hc1⟩ := C1.out (by omega)
     have x1 := hc1 k hlt
     have k0 : (0 : Int) ≤ (k : Int) := by omega
     have k1 : (k : Int) < (L.length : Int) := by omega
     clear hc1
     have HX := κ (fun h => HN.out.trans (labels_bad L k hlt h))
     have HY := κ (fun h => labels_next L k hlt h HB.out)
     have hps := HBD.out _ (List.getElem_mem hlt)
     obtain ⟨P, hP⟩ : ∃ P, P = bs L[k] := ⟨_, rfl⟩
     have hPu : L[k] = us P := by rw [hP]; simp
     rw [← hP] at x1
     rw [hPu] at HX HY hps
     rw [length_us] at hps
     clear hP hPu
     have HA := κ (fun wx => allR_c P (by omega) 64 wx)
     by_cases pz : P.size = 0
     ·have HF := κ (HX.out (label_zero P pz))
      obtain rfl := eq_empty pz
      go_wp2
      all_goals
       go_ret
       exact ⟨ret_bool (by rw [HF.out]), HW.out⟩
     have pE := ne_empty pz
     have pF := isEmpty_f pz
     have p0 : 0 < P.size := by omega
     cases ha : allc 64 (us P) with
     | false =>
      have HF := κ (HX.out (label_all P ha))
      rw [ha] at HA; clear ha
      go_wp2_with (go_at_call 117; refine (HA.out _).mono ?_; rintro e w3 ⟨rfl, rfl⟩)
      go_ret
      exact ⟨ret_bool (by rw [HF.out]), HW.out⟩
     | true =>
      by_cases d0 : P[0].toNat = 45
      ·have HF := κ (HX.out (label_head P p0 d0))
       have t2 : ((P[0].toNat : Int) == 45) = true := by simp [d0]
       rw [ha] at HA; clear ha d0
       go_wp2_with (go_at_call 117; refine (HA.out _).mono ?_; rintro e w3 ⟨rfl, rfl⟩)
       go_ret
       exact ⟨ret_bool (by rw [HF.out]), HW.out⟩
      have t2 : ((P[0].toNat : Int) == 45) = false := by simp; omega
      have q1 : P.size - 1 < P.size := by omega
      have q2 : (0 : Int) ≤ (P.size : Int) - 1 := by omega
      have q3 : ((P.size : Int) - 1).toNat = P.size - 1 := by omega
      by_cases d1 : P[P.size - 1].toNat = 45
      ·have HF := κ (HX.out (label_last P p0 d1))
       have t3 : ((P[P.size - 1].toNat : Int) == 45) = true := by simp [d1]
       rw [ha] at HA; clear ha d0 d1
       go_wp2_with (go_at_call 117; refine (HA.out _).mono ?_; rintro e w3 ⟨rfl, rfl⟩)
       go_ret
       exact ⟨ret_bool (by rw [HF.out]), HW.out⟩
      ·have t3 : ((P[P.size - 1].toNat : Int) == 45) = false := by simp; omega
       have HG := κ (HY.out (label_yes P p0 ha d0 d1))
       rw [ha] at HA; clear ha d0 d1
       go_wp2_with (go_at_call 117; refine (HA.out _).mono ?_; rintro e w3 ⟨rfl, rfl⟩)
       go_round
       case rel => exact ⟨k + 1, by omega, by go_num, HG.out⟩
       case measure => simp [intOf]; omega
    ·have hE2 : L.take k = L := List.take_of_length_le (by omega)
     rw [hE2] at HB
     clear hE2
     go_wp2
     go_ret
     exact ⟨ret_bool (by rw [HN.out, HB.out]), HW.out⟩
end
end Go.Proofs.YtipdiddjhimdcaaGreatDoor
