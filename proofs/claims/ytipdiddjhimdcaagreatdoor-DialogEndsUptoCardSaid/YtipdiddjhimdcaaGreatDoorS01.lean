/-
  Packed: XBase, XScP, XScQ, XScS, XPrm, XFrS, XVpl, XVia, XUrs, XUrc, XBld.
-/
import Derived.Test.YtipdiddjhimdcaaGreatDoorB16
import Derived.Test.YtipdiddjhimdcaaGreatDoorB14
import Derived.Test.YtipdiddjhimdcaaGreatDoorB15
import Derived.WalkKit
import Derived.Lib.IndexEntry
import Derived.WalkSpells
import Derived.WalkLawsBesides
import Derived.Lib.Hide
import Derived.Deep.QuietTactic
import Derived.BigQuiet
import Derived.WalkSmall
import Derived.Lib.ConvBytes
import Derived.Laws.IdiomStrings
import Derived.Deep.RegionLaw
import Derived.Lib.AppendStr
import Derived.Lib.IndexBytes
import Derived.Laws.StructEq
import Derived.Test.YtipdiddjhimdcaaGreatDoorShelf
import Derived.Lib.Builder
import Derived.Lib.UnsafeStr
import Derived.Laws.Externs
namespace Go.Proofs.YtipdiddjhimdcaaGreatDoor

section
open Go.RowKit

def ebyte (keep : List UInt8) (c : UInt8) : List UInt8 :=
  if c.toNat ≠ 37 ∧ (testc 16 c = true ∨ hasb keep c = true) then [c] else [37, hexd (c.toNat / 16), hexd (c.toNat % 16)]
def escape (l keep : List UInt8) : List UInt8 := l.flatMap (ebyte keep)
end

section
open Go.RowKit

section
variable {P : Program} {ops : Array Oper} {rest : List Oper} {o : Oper} {a : Act} {Q : Exit → Act → World → Prop}

theorem step_appB3 {K : Act → World → Prop} {E' : Prop} {wE w : World} {base : Nat} {e t : TypeId} {v : Value} {l : List UInt8} {s x : Operand} {E F G : Int} (c d f : UInt8) (hE : E = (c.toNat : Int)) (hF : F = (d.toNat : Int)) (hG : G = (f.toNat : Int))
    (hgd : o.guard = none) (ho : o.op = .call { callee := .builtin .append, args := #[s, x], argTypes := #[t, t] })
    (ht : P.underlying t = some (.slice e)) (hi : infoIs P e (.int .u8 0) 1 1)
    (hx : a.eval x = .slice (some ⟨w.heap.size, 0, none⟩) 3 3) (hs : a.eval s = v) (hown : Byt w base e v l) (hB : Below base wE w) (hbase : base ≤ wE.heap.size)
    (hbd : l.length + 3 ≤ 140737488355328)
    (h : ∀ v' w', Byt w' base e v' (l ++ [c, d, f]) → Below base wE w' → K (a.put o.dst v') w') :
    if Region.wanted o (yielded ops a.tmps) = true then Oper.wp P o a (w.alloc (.cells #[.int .u8 E, .int .u8 F, .int .u8 G] e)) K Q else E' := by
  subst hE hF hG
  exact step_of hgd (op_appB [c, d, f] ho ht hi hx hs hown hB hbase hbd h)
end

end

section
open Go.RowKit

section
variable {P : Program} {ops : Array Oper} {rest : List Oper} {o : Oper} {a : Act} {Q : Exit → Act → World → Prop}
end
end

section
open Go.RowKit

section
variable {P : Program} {ops : Array Oper} {rest : List Oper} {o : Oper} {a : Act} {Q : Exit → Act → World → Prop}
end
end

section
open Go.RowKit

section
variable {P : Program} {ops : Array Oper} {rest : List Oper} {o : Oper} {a : Act} {Q : Exit → Act → World → Prop}
end
end

section
open Go.RowKit

section
variable {P : Program} {ops : Array Oper} {rest : List Oper} {o : Oper} {a : Act} {Q : Exit → Act → World → Prop}
end

end

section
open Go.RowKit

section
variable {P : Program} {ops : Array Oper} {o : Oper} {a : Act} {Q : Exit → Act → World → Prop}
theorem step_wB1 {K : Act → World → Prop} {w : World} {E : Prop} {f : FuncId} {x : Operand} {ts : Array TypeId} {v0 v : Value}
    (hw : Region.wanted o (yielded ops a.tmps) = true) (ho : o.op = .call { callee := .value (.func f), args := #[x], argTypes := ts }) {fn : Func} (hf : P.funcs[f]? = some fn) (hnm : (fn.name == "runtime.NumGoroutine") = false) (hbd : fn.body.isNone = false)
    (hx : a.eval x = v0) (hC : Calls P f #[v0] w fun e w' => e = .returned v ∧ Below w.heap.size w w') (hK : ∀ w', Below w.heap.size w w' → K (a.put o.dst v) w') :
    if Region.wanted o (yielded ops a.tmps) = true then Oper.wp P o a w K Q else E := by
  rw [if_pos hw]
  unfold Oper.wp
  have h1 : fn.name ≠ "runtime.NumGoroutine" := by simpa using hnm
  have h2 : fn.body ≠ none := by intro e; rw [e] at hbd; cases hbd
  have hrun : (execOp a.eval o).run P w = .ok (.enter f #[v0]) w := by
    subst hx
    simp [execOp, ho, resolve, Deferred.ofValue, invoke, callFunc, Act.eval, hf, h1, h2, Result.andThen]
  rw [hrun]
  refine hC.mono ?_
  rintro e w' ⟨rfl, hB⟩
  exact hK w' hB
end
end

end Go.Proofs.YtipdiddjhimdcaaGreatDoor

namespace Go.Proofs.YtipdiddjhimdcaaGreatDoor

section
open Go.RowKit

theorem hasb_drop (s : ByteArray) (c : UInt8) (k : Nat) (h : k < s.size) : hasb ((us s).drop k) c = (s[k].toNat == c.toNat || hasb ((us s).drop (k + 1)) c) := by
  rw [drop_us s k h]; rfl
set_option maxHeartbeats 400000 in
theorem in_c (s : ByteArray) (hs : s.size ≤ 9223372036854775807) (c : UInt8) (w : World) :
    Calls Tryz.prog 144 #[.string s, .int .u8 c.toNat] w fun e w' => e = .returned (.bool (hasb (us s) c)) ∧ w = w' := by
  go_enter Tryz.func144, Tryz.ntmps144
  go_wp2
  go_loop [8] (fun i => ∃ k : Nat, k ≤ s.size ∧ i = .int .i64 k ∧ hasb ((us s).drop k) c = hasb (us s) c) (fun i => s.size - (intOf i).toNat)
  case atStart => exact ⟨0, Nat.zero_le _, rfl, rfl⟩
  case round =>
    obtain ⟨k, hk, rfl, hb⟩ := hrel
    have HB := Lib.hid hb; clear hb
    by_cases hlt : k < s.size
    · have hd := Lib.hid (hasb_drop s c k hlt)
      go_wp2
      · go_ret
        rename_i h _
        refine ⟨ret_bool ?_, rfl⟩
        rw [← HB.out, hd.out]; simp at h; simp; omega
      · go_round
        case rel => exact ⟨k + 1, by omega, by go_num, by rename_i h; rw [← HB.out, hd.out]; simp at h; simp; omega⟩
        case measure => simp [intOf]; omega
    · go_wp2
      go_ret
      refine ⟨ret_bool ?_, rfl⟩
      rw [← HB.out, drop_us_end s k (by omega)]; rfl

end

section
open Go.RowKit

/-! trimming -/
end

section
open Go.RowKit

end

section
open Go.RowKit

/-! numbers -/
end

end Go.Proofs.YtipdiddjhimdcaaGreatDoor

namespace Go.Proofs.YtipdiddjhimdcaaGreatDoor

section
open Go.RowKit

end

section
open Go.RowKit

end

section
open Go.RowKit

theorem ebyte_len (keep : List UInt8) (c : UInt8) : (ebyte keep c).length ≤ 3 := by unfold ebyte; split <;> simp

theorem hex_and (c : UInt8) : bits BinOp.and IntKind.u8 c.toNat 15 = ((c.toNat % 16 : Nat) : Int) :=
  all_bytes (fun c => bits BinOp.and IntKind.u8 c.toNat 15 = ((c.toNat % 16 : Nat) : Int)) (by decide +kernel) c
theorem testc16 (c : UInt8) (b : Bool) (h : testc 16 c = b) : (bits BinOp.and IntKind.i64 (cls c) 16 != 0) = b := by
  rw [← h]; rfl
theorem ebyte_plain (keep : List UInt8) (c : UInt8) (h : c.toNat ≠ 37) (h' : testc 16 c = true ∨ hasb keep c = true) : ebyte keep c = [c] := by
  unfold ebyte; rw [if_pos ⟨h, h'⟩]
theorem ebyte_esc (keep : List UInt8) (c : UInt8) (h : c.toNat = 37 ∨ (testc 16 c = false ∧ hasb keep c = false)) : ebyte keep c = [37, hexd (c.toNat / 16), hexd (c.toNat % 16)] := by
  unfold ebyte; rw [if_neg]
  rintro ⟨h1, h2⟩
  rcases h with h | ⟨h3, h4⟩
  · exact h1 h
  · rw [h3, h4] at h2; simp at h2
theorem ebyte_cases (keep : List UInt8) (c : UInt8) :
    (((c.toNat : Int) != 37) = true ∧ testc 16 c = true ∧ ebyte keep c = [c]) ∨ (((c.toNat : Int) != 37) = true ∧ testc 16 c = false ∧ hasb keep c = true ∧ ebyte keep c = [c]) ∨
    (((c.toNat : Int) != 37) = true ∧ testc 16 c = false ∧ hasb keep c = false ∧ ebyte keep c = [37, hexd (c.toNat / 16), hexd (c.toNat % 16)]) ∨
    (((c.toNat : Int) != 37) = false ∧ ebyte keep c = [37, hexd (c.toNat / 16), hexd (c.toNat % 16)]) := by
  by_cases h : c.toNat = 37
  · exact .inr (.inr (.inr ⟨by simp; omega, ebyte_esc keep c (.inl h)⟩))
  have hn : ((c.toNat : Int) != 37) = true := by simp; omega
  cases h1 : testc 16 c with
  | true => exact .inl ⟨hn, rfl, ebyte_plain keep c h (.inl h1)⟩
  | false =>
    cases h2 : hasb keep c with
    | true => exact .inr (.inl ⟨hn, rfl, rfl, ebyte_plain keep c h (.inr h2)⟩)
    | false => exact .inr (.inr (.inl ⟨hn, rfl, rfl, ebyte_esc keep c (.inr ⟨h1, h2⟩)⟩))

set_option maxHeartbeats 1600000 in
theorem escape_c (s t : ByteArray) (hs : s.size ≤ 35184372088832) (hkt : t.size ≤ 9223372036854775807) (w : World) :
    Calls Tryz.prog 85 #[.string s, .string t] w fun e w' => e = .returned (.string (bs (escape (us s) (us t)))) ∧ Below w.heap.size w w' := by
  go_enter Tryz.func85, Tryz.ntmps85
  go_wp2
  go_loopw [5, 10] (fun v i wr => ∃ k : Nat, k ≤ s.size ∧ i = .int .i64 k ∧ Byt wr w.heap.size 5 v (((us s).take k).flatMap (ebyte (us t))) ∧ Below w.heap.size w wr) (fun _ i _ => s.size - (intOf i).toNat)
  case atStart => exact ⟨0, Nat.zero_le _, rfl, Byt.nil _ _ _, Below.refl _ _⟩
  case round =>
    obtain ⟨k, hk, rfl, hown, hB⟩ := hrel
    have HL := Lib.hid (flat_bd s (ebyte (us t)) 3 k (ebyte_len (us t)) hk)
    by_cases hlt : k < s.size
    · have ht := Lib.hid (flat_take s (ebyte (us t)) k hlt)
      have i1 := fun wx => sixt_run (P := Tryz.prog) Tryz.underlying9 .u8 (s[k].toNat / 16) (by have := s[k].toNat_lt; omega) (show (s[k].toNat : Int) / 16 = ((s[k].toNat / 16 : Nat) : Int) by omega) wx
      have i2 := fun wx => sixt_run (P := Tryz.prog) Tryz.underlying9 .u8 (s[k].toNat % 16) (by omega) (hex_and s[k]) wx
      rcases ebyte_cases (us t) s[k] with ⟨hp, h1, hE⟩ | ⟨hp, h1, h2, hE⟩ | ⟨hp, h1, h2, hE⟩ | ⟨hp, hE⟩
      · have HE := Lib.hid hE
        have h1' := testc16 _ _ h1
        clear h1 hE i1 i2
        go_wp2_with (first | (go_at_call 92; refine (class_c _ _).mono ?_; rintro e w' ⟨rfl, rfl⟩) | (at_builtin; refine wpList_appB1 s[k] rfl rfl rfl Tryz.underlying140 infoB rfl rfl hown hB (Nat.le_refl _) ?_ ?_; (focus (have := HL.out; omega)); intro v1 w1 ho1 hb1))
        go_roundw
        case rel => exact ⟨k + 1, by omega, by go_num, ho1.cast (by rw [ht.out, HE.out]), hb1⟩
        case measure => simp [intOf]; omega
      · have HE := Lib.hid hE
        have h1' := testc16 _ _ h1
        clear h1 hE i1 i2
        go_wp2_with (first | (go_at_call 92; refine (class_c _ _).mono ?_; rintro e w' ⟨rfl, rfl⟩) | (go_at_call 144; refine (in_c t hkt _ _).mono ?_; rintro e w' ⟨rfl, rfl⟩) | (at_builtin; refine wpList_appB1 s[k] rfl rfl rfl Tryz.underlying140 infoB rfl rfl hown hB (Nat.le_refl _) ?_ ?_; (focus (have := HL.out; omega)); intro v1 w1 ho1 hb1))
        go_roundw
        case rel => exact ⟨k + 1, by omega, by go_num, ho1.cast (by rw [ht.out, HE.out]), hb1⟩
        case measure => simp [intOf]; omega
      · have HE := Lib.hid hE
        have h1' := testc16 _ _ h1
        clear h1 hE
        go_wp2_with (first | (go_at_call 92; refine (class_c _ _).mono ?_; rintro e w' ⟨rfl, rfl⟩) | (go_at_call 144; refine (in_c t hkt _ _).mono ?_; rintro e w' ⟨rfl, rfl⟩))
        go_region_law (refine step_appB3 37 (hexd (s[k].toNat / 16)) (hexd (s[k].toNat % 16)) rfl rfl rfl rfl rfl Tryz.underlying140 infoB rfl rfl hown.drew hB.drew (Nat.le_refl _) ?_ ?_; (focus (have := HL.out; omega)); intro v1 w1 ho1 hb1)
        all_goals
          go_wp2
          go_roundw
          case rel => exact ⟨k + 1, by omega, by go_num, ho1.cast (by rw [ht.out, HE.out]), hb1⟩
          case measure => simp [intOf]; omega
      · have HE := Lib.hid hE
        clear hE
        go_wp2
        go_region_law (refine step_appB3 37 (hexd (s[k].toNat / 16)) (hexd (s[k].toNat % 16)) rfl rfl rfl rfl rfl Tryz.underlying140 infoB rfl rfl hown.drew hB.drew (Nat.le_refl _) ?_ ?_; (focus (have := HL.out; omega)); intro v1 w1 ho1 hb1)
        all_goals
          go_wp2
          go_roundw
          case rel => exact ⟨k + 1, by omega, by go_num, ho1.cast (by rw [ht.out, HE.out]), hb1⟩
          case measure => simp [intOf]; omega
    · have hown' := Lib.hid (take_all s k (by omega))
      go_wp2_with (refine wpList_str rfl rfl Tryz.underlying140 Tryz.underlying5 Tryz.underlying9 rfl hown ?_)
      go_ret
      exact ⟨ret_bs (by rw [us_bs]; first | rfl | rw [hown'.out]; rfl), hB⟩
end

end Go.Proofs.YtipdiddjhimdcaaGreatDoor

namespace Go.Proofs.YtipdiddjhimdcaaGreatDoor

section
open Go.RowKit

end

section
open Go.RowKit

theorem digF_len : ∀ (f n : Nat), (digF f n).length ≤ f
  | 0, _ => Nat.le_refl _
  | f + 1, n => by
    unfold digF
    split
    · simp
    · have := digF_len f (n / 10); simp; exact this
theorem digits_len (n : Int) : (digits n).length ≤ 20 := by
  unfold digits; split
  · simp
  · exact digF_len _ _

end

section
open Go.RowKit

end

section
end

end Go.Proofs.YtipdiddjhimdcaaGreatDoor

namespace Go.Proofs.YtipdiddjhimdcaaGreatDoor

section
open Go.RowKit

end

section
open Go.RowKit

end

section
open Go.RowKit

end

section
open Go.RowKit

end

section
open Go.RowKit

section
variable {w w' : World} {g : Nat} {t : TypeId} {cs : Array Value}
end
/-- a call behind the laying of a block -/
theorem newCall {w w1 : World} {t : TypeId} {cs : Array Value} (hC : Below (w.alloc (.cells cs t)).heap.size (w.alloc (.cells cs t)) w1) : Blk w1 w.heap.size t cs ∧ Below w.heap.size w w1 ∧ w.heap.size < w1.heap.size := by
  have hs : (w.alloc (.cells cs t)).heap.size = w.heap.size + 1 := World.size_alloc _ _
  rw [hs] at hC
  exact ⟨boxedAt hC, ((Below.refl _ _).alloc (Nat.le_refl _) _).trans (hC.mono (by omega)), by have := hC.size; omega⟩
end

section
open Go.RowKit

end

end Go.Proofs.YtipdiddjhimdcaaGreatDoor

namespace Go.Proofs.YtipdiddjhimdcaaGreatDoor
open Go.RowKit

structure Hdr where
  name : List UInt8
  value : List UInt8
deriving DecidableEq
structure Mg where
  method : List UInt8
  target : List UInt8
  status : Int
  reason : List UInt8
  hdrs : List Hdr
  body : List UInt8
deriving DecidableEq
def nVia : List UInt8 := [86, 105, 97]
def nFrom : List UInt8 := [70, 114, 111, 109]
def nTo : List UInt8 := [84, 111]
def nCallId : List UInt8 := [67, 97, 108, 108, 45, 73, 68]
def nContact : List UInt8 := [67, 111, 110, 116, 97, 99, 116]
def nCEnc : List UInt8 := [67, 111, 110, 116, 101, 110, 116, 45, 69, 110, 99, 111, 100, 105, 110, 103]
def nCLen : List UInt8 := [67, 111, 110, 116, 101, 110, 116, 45, 76, 101, 110, 103, 116, 104]
def nCTyp : List UInt8 := [67, 111, 110, 116, 101, 110, 116, 45, 84, 121, 112, 101]
def nSubject : List UInt8 := [83, 117, 98, 106, 101, 99, 116]
def nSupp : List UInt8 := [83, 117, 112, 112, 111, 114, 116, 101, 100]
def nEvent : List UInt8 := [69, 118, 101, 110, 116]
def nAllow : List UInt8 := [65, 108, 108, 111, 119, 45, 69, 118, 101, 110, 116, 115]
def ver : List UInt8 := [83, 73, 80, 47, 50, 46, 48]
/-- the short names and the long ones -/
def shorts : List UInt8 := [118, 102, 116, 105, 109, 101, 108, 99, 115, 107, 111, 117]
def longs : List (List UInt8) := [nVia, nFrom, nTo, nCallId, nContact, nCEnc, nCLen, nCTyp, nSubject, nSupp, nEvent, nAllow]
def longGo (c : UInt8) : List UInt8 → List (List UInt8) → Option (List UInt8)
  | s :: r, l :: t => if c.toNat = s.toNat then some l else longGo c r t
  | _, _ => none
def longS (l : List UInt8) : List UInt8 :=
  match l with
  | [c] => (longGo (low c) shorts longs).getD l
  | _ => l

/-- may a byte stand in a line? -/
def vis (c : UInt8) : Bool := c.toNat == 9 || (decide (32 ≤ c.toNat) && !(c.toNat == 127))
def visS (l : List UInt8) : Bool := l.all vis
def valS (l : List UInt8) : Bool := visS l && (trim l == l)
def targS (l : List UInt8) : Bool := !(l == []) && visS l && l.all (fun c => !blank c)
def firstS (m : Mg) : Bool :=
  if m.method = [] then decide (100 ≤ m.status) && decide (m.status ≤ 699) && valS m.reason && (m.target == [])
  else token m.method && targS m.target && (m.status == 0) && (m.reason == [])
def isLen (l : List UInt8) : Bool := same l nCLen
def badH (h : Hdr) : Bool := !(token h.name) || !(longS h.name == h.name) || isLen h.name || !(valS h.value)
def checkS (m : Mg) : Int := if firstS m = false then 60 else if 64 < m.hdrs.length then 4 else if m.hdrs.any badH = true then 61 else 0

def lineH (h : Hdr) : List UInt8 := h.name ++ 58 :: 32 :: (h.value ++ [13, 10])
def startL (m : Mg) : List UInt8 :=
  if m.method = [] then ver ++ 32 :: (digits m.status ++ 32 :: m.reason) else m.method ++ 32 :: (m.target ++ 32 :: ver)
def tailT (b : List UInt8) : List UInt8 := nCLen ++ 58 :: 32 :: (digits b.length ++ 13 :: 10 :: 13 :: 10 :: b)
def textM (m : Mg) : List UInt8 := startL m ++ 13 :: 10 :: (m.hdrs.flatMap lineH ++ tailT m.body)
def printM (m : Mg) : List UInt8 × Int :=
  if checkS m ≠ 0 then ([], checkS m) else if 4096 < (textM m).length then ([], 2) else (textM m, 0)

/-! ### The plain laws -/

theorem longS_two (l : List UInt8) (h : l.length ≠ 1) : longS l = l := by
  unfold longS
  match l, h with
  | [], _ => rfl
  | [_], h => exact absurd rfl h
  | _ :: _ :: _, _ => rfl
end Go.Proofs.YtipdiddjhimdcaaGreatDoor

namespace Go.Proofs.YtipdiddjhimdcaaGreatDoor

section
open Go.RowKit
theorem textGo_le : ∀ (L done : List Prm) (s : List UInt8), textGo done L = some s → s.length ≤ 200 * L.length
  | [], done, s, h => by rw [textGo] at h; injection h with h; rw [← h]; exact Nat.le_refl _
  | p :: r, done, s, h => by
    rw [textGo] at h
    split at h
    · rename_i hm
      cases hq : textGo (done ++ [p]) r with
      | none => rw [hq] at h; cases h
      | some t =>
        rw [hq] at h
        injection h with h
        have h1 := textGo_le r _ t hq
        have h2 := ptext_le p (mayS_len hm).1 (mayS_len hm).2
        rw [← h, List.length_append, List.length_cons]; omega
    · cases h
theorem textS_le (L : List Prm) : (textS L).1.length ≤ 3200 := by
  unfold textS
  split
  · exact Nat.zero_le _
  · cases h : textGo [] L with
    | none => exact Nat.zero_le _
    | some s => have := textGo_le L [] s h; show s.length ≤ _; omega
end

end Go.Proofs.YtipdiddjhimdcaaGreatDoor

namespace Go.Proofs.YtipdiddjhimdcaaGreatDoor

def nProto : List UInt8 := [83, 73, 80, 47, 50, 46, 48, 47, 85, 68, 80]
def checkV (v : Hop) : Int := if hostS v.host = false then 32 else if v.port < 0 ∨ 65535 < v.port then 33 else (textS v.ps).2
def portT (p : Int) : List UInt8 := if 0 < p then 58 :: digits p else []
def textV (v : Hop) : List UInt8 := nProto ++ 32 :: (v.host ++ (portT v.port ++ (textS v.ps).1))
def printV (v : Hop) : List UInt8 × Int := if checkV v = 0 then (textV v, 0) else ([], checkV v)
theorem portT_len (p : Int) : (portT p).length ≤ 21 := by
  unfold portT
  split
  · have h0 : ∀ f m, (digF f m).length ≤ f := by
      intro f
      induction f with
      | zero => intro m; exact Nat.le_refl _
      | succ f ih => intro m; rw [digF]; split <;> simp; have := ih (m / 10); omega
    rw [List.length_cons]
    unfold digits
    split
    · decide
    · have := h0 20 p.toNat; omega
  · exact Nat.zero_le _
theorem check_parts (v : Hop) (h : checkV v = 0) : hostS v.host = true ∧ 0 ≤ v.port ∧ v.port ≤ 65535 ∧ (textS v.ps).2 = 0 := by
  unfold checkV at h
  cases hh : hostS v.host
  · rw [hh, if_pos rfl] at h; exact absurd h (by decide)
  · rw [hh, if_neg (by decide)] at h
    split at h
    · exact absurd h (by decide)
    · exact ⟨rfl, by omega, by omega, h⟩
end Go.Proofs.YtipdiddjhimdcaaGreatDoor

namespace Go.Proofs.YtipdiddjhimdcaaGreatDoor

def pairS (p : Prm) (keep : List UInt8) : List UInt8 := escape p.name keep ++ (if p.has = true then 61 :: escape p.value keep else [])
def userT (u : List UInt8) : List UInt8 := if u = [] then [] else escape u kUsers ++ [64]
def psT (L : List Prm) : List UInt8 := L.flatMap fun p => 59 :: pairS p kParams
def hsT : List Prm → List UInt8
  | [] => []
  | p :: r => 63 :: (pairS p kHeaders ++ r.flatMap fun q => 38 :: pairS q kHeaders)
def textU (u : Uri) : List UInt8 := u.scheme ++ 58 :: (userT u.user ++ (u.host ++ (portT u.port ++ (psT u.ps ++ hsT u.hs))))
def printU (u : Uri) : List UInt8 × Int := if checkU u = 0 then (textU u, 0) else ([], checkU u)
theorem listGo_ok : ∀ (L d : List Prm), listGo d L = true → ∀ p ∈ L, okU p = true
  | [], _, _ => fun p hp => by cases hp
  | q :: r, d, h => by
    rw [listGo, Bool.and_eq_true, Bool.and_eq_true] at h
    intro p hp
    rcases List.mem_cons.1 hp with rfl | hp
    · exact h.1.1
    · exact listGo_ok r (d ++ [q]) h.2 p hp
theorem listU_ok {L : List Prm} (h : listU L = true) : L.length ≤ 16 ∧ ∀ p ∈ L, 1 ≤ p.name.length ∧ p.name.length ≤ 64 ∧ p.value.length ≤ 64 ∧ (p.has = true ∨ p.value = []) := by
  unfold listU at h
  rw [Bool.and_eq_true, decide_eq_true_eq] at h
  refine ⟨h.1, fun p hp => ?_⟩
  have := listGo_ok L [] h.2 p hp
  unfold okU at this
  simpa [and_assoc] using this
theorem scheme_facts (l : List UInt8) (h : schemeS l = true) : (∀ x ∈ l, x.toNat ≠ 58) ∧ lowr l = l ∧ l.length ≤ 4 ∧ (∀ x ∈ l, x.toNat ≠ 62 ∧ x.toNat ≠ 60 ∧ x.toNat ≠ 34) ∧ l ≠ [] := by
  unfold schemeS at h
  simp only [Bool.or_eq_true, beq_iff_eq] at h
  rcases h with (rfl | rfl) | rfl <;> exact ⟨by decide, by decide +kernel, by decide, by decide, by decide⟩
theorem escape_le (l keep : List UInt8) : (escape l keep).length ≤ 3 * l.length := by
  unfold escape
  induction l with
  | nil => exact Nat.zero_le _
  | cons c r ih =>
    rw [List.flatMap_cons, List.length_append, List.length_cons]
    have : (ebyte keep c).length ≤ 3 := by unfold ebyte; split <;> simp
    omega
theorem pair_le (p : Prm) (keep : List UInt8) (h1 : p.name.length ≤ 64) (h2 : p.value.length ≤ 64) : (pairS p keep).length ≤ 400 := by
  have a := escape_le p.name keep
  have b := escape_le p.value keep
  unfold pairS
  split <;> simp <;> omega
theorem flat_le {α : Type} (f : α → List UInt8) (B : Nat) : ∀ L : List α, (∀ p ∈ L, (f p).length ≤ B) → (L.flatMap f).length ≤ B * L.length
  | [], _ => Nat.zero_le _
  | p :: r, h => by
    have a := h p (List.mem_cons_self ..)
    have b := flat_le f B r (fun q hq => h q (List.mem_cons_of_mem _ hq))
    rw [List.flatMap_cons, List.length_append, List.length_cons, Nat.mul_succ]; omega
theorem psT_le (L : List Prm) (h : ∀ p ∈ L, p.name.length ≤ 64 ∧ p.value.length ≤ 64) : (psT L).length ≤ 401 * L.length := by
  unfold psT
  refine flat_le _ 401 L fun p hp => ?_
  have := pair_le p kParams (h p hp).1 (h p hp).2
  rw [List.length_cons]; omega
theorem hsT_le (L : List Prm) (h : ∀ p ∈ L, p.name.length ≤ 64 ∧ p.value.length ≤ 64) : (hsT L).length ≤ 401 * L.length := by
  cases L with
  | nil => exact Nat.zero_le _
  | cons p r =>
    have a := pair_le p kHeaders (h p (List.mem_cons_self ..)).1 (h p (List.mem_cons_self ..)).2
    have b := flat_le (fun q => 38 :: pairS q kHeaders) 401 r (fun q hq => by
      have := pair_le q kHeaders (h q (List.mem_cons_of_mem _ hq)).1 (h q (List.mem_cons_of_mem _ hq)).2
      rw [List.length_cons]; omega)
    rw [hsT, List.length_cons, List.length_append, List.length_cons, Nat.mul_succ]; omega
theorem textU_le (u : Uri) (h : checkU u = 0) : (textU u).length ≤ 14000 := by
  obtain ⟨h1, h2, h3, h4, h5, h6, h7, _⟩ := checkU_parts u h
  obtain ⟨_, _, s3, _, _⟩ := scheme_facts _ h1
  have a := psT_le u.ps (fun p hp => ⟨((listU_ok h6).2 p hp).2.1, ((listU_ok h6).2 p hp).2.2.1⟩)
  have b := hsT_le u.hs (fun p hp => ⟨((listU_ok h7).2 p hp).2.1, ((listU_ok h7).2 p hp).2.2.1⟩)
  have c := (host_low _ h3).2.2
  have d := portT_len u.port
  have e : (userT u.user).length ≤ 200 := by
    unfold userT
    have := escape_le u.user kUsers
    split <;> simp <;> omega
  have f := (listU_ok h6).1
  have g := (listU_ok h7).1
  unfold textU
  rw [List.length_append, List.length_cons, List.length_append, List.length_append, List.length_append, List.length_append]
  omega
end Go.Proofs.YtipdiddjhimdcaaGreatDoor

namespace Go.Proofs.YtipdiddjhimdcaaGreatDoor
open Go.RowKit

set_option maxHeartbeats 1600000 in
theorem pair_c (p : Prm) (K : ByteArray) (hn : p.name.length ≤ 4294967280) (hv : p.value.length ≤ 4294967280) (hK : K.size ≤ 4294967280) (w : World) :
    Calls Tryz.prog 86 #[pv p, .string K] w fun e w' => e = .returned (.string (bs (pairS p (us K)))) ∧ Below w.heap.size w w' := by
  obtain ⟨n, v, h⟩ := p
  dsimp only at hn hv
  have HE1 := Lib.hid (fun wx => escape_c (bs n) K (by rw [size_bs]; omega) (by omega) wx)
  have HE2 := Lib.hid (fun wx => escape_c (bs v) K (by rw [size_bs]; omega) (by omega) wx)
  have l1 := escape_le n (us K)
  have l2 := escape_le v (us K)
  rw [us_bs] at HE1 HE2
  have hpt : pairS ⟨n, v, h⟩ (us K) = escape n (us K) ++ (if h = true then 61 :: escape v (us K) else []) := rfl
  obtain ⟨R, hR⟩ : ∃ R, R = pairS ⟨n, v, h⟩ (us K) := ⟨_, rfl⟩
  rw [← hR] at hpt ⊢
  obtain ⟨X, hX⟩ : ∃ X, X = bs (escape n (us K)) := ⟨_, rfl⟩
  obtain ⟨Y, hY⟩ : ∃ Y, Y = bs (escape v (us K)) := ⟨_, rfl⟩
  rw [← hX] at HE1
  rw [← hY] at HE2
  have uX : escape n (us K) = us X := by rw [hX, us_bs]
  have uY : escape v (us K) = us Y := by rw [hY, us_bs]
  rw [uX, uY] at hpt
  rw [uX, length_us] at l1
  rw [uY, length_us] at l2
  unfold pv sv
  dsimp only
  obtain ⟨N, hN⟩ : ∃ N, N = bs n := ⟨_, rfl⟩
  obtain ⟨V, hV⟩ : ∃ V, V = bs v := ⟨_, rfl⟩
  rw [← hN] at HE1 ⊢
  rw [← hV] at HE2 ⊢
  have sX : X.size ≤ 12884901840 := by omega
  have sY : Y.size ≤ 12884901840 := by omega
  clear hR hX hY uX uY hN hV l1 l2 hn hv
  have hZ : Below w.heap.size w (w.alloc (.cells #[.string N, .string V, .bool h] 85)) := (Below.refl _ _).alloc (Nat.le_refl _) _
  have bm := Blk.new w 85 #[.string N, .string V, .bool h]
  obtain ⟨w0, hw0⟩ : ∃ w0, w0 = w.alloc (.cells #[.string N, .string V, .bool h] 85) := ⟨_, rfl⟩
  rw [← hw0] at hZ bm
  have HW0 := Lib.hid hw0
  clear hw0
  cases h
  · rw [if_neg (by decide), List.append_nil] at hpt
    have HPT := Lib.hid hpt
    clear hpt
    go_enter Tryz.func86, Tryz.ntmps86
    go_wp2_with (first | (go_at_call 85; (try rw [← HW0.out]); (first | ((with_reducible refine (HE1.out _).mono ?_); rintro e w1 ⟨rfl, hC1⟩) | ((with_reducible refine (HE2.out _).mono ?_); rintro e w1 ⟨rfl, hC1⟩)); have bm := bm.call hC1; obtain ⟨p0, p1, p2, _, _, _, _⟩ := bm.f3; have hZ := hZ.trans (hC1.mono hZ.size)))
    go_ret
    exact ⟨ret_bs (by rw [HPT.out]), hZ⟩
  · rw [if_pos rfl] at hpt
    have HPT := Lib.hid hpt
    clear hpt
    go_enter Tryz.func86, Tryz.ntmps86
    go_wp2_with (first | (go_at_call 85; (try rw [← HW0.out]); (first | ((with_reducible refine (HE1.out _).mono ?_); rintro e w1 ⟨rfl, hC1⟩) | ((with_reducible refine (HE2.out _).mono ?_); rintro e w1 ⟨rfl, hC1⟩)); have bm := bm.call hC1; obtain ⟨p0, p1, p2, _, _, _, _⟩ := bm.f3; have hZ := hZ.trans (hC1.mono hZ.size)))
    go_ret
    exact ⟨ret_bs (by rw [HPT.out]; simp [us]), hZ⟩

end Go.Proofs.YtipdiddjhimdcaaGreatDoor

namespace Go.Proofs.YtipdiddjhimdcaaGreatDoor
open Go.RowKit

theorem bld_len (B b : Nat) (l : List UInt8) (w : World) (h : Bld B b l w) :
    Calls Tryz.prog 90 #[.pointer (some ⟨b, 0, none⟩)] w fun e w' => e = .returned (.int .i64 l.length) ∧ w = w' := by
  refine (Tryz.Builder_Len B b _ w h).mono ?_
  rintro e w' ⟨rfl, rfl⟩
  exact ⟨by rw [byteCells_len], rfl⟩
end Go.Proofs.YtipdiddjhimdcaaGreatDoor

