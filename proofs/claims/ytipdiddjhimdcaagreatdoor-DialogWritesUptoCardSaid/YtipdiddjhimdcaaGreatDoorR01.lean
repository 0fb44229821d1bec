/- Contracts of Go functions, and plain laws. No condition but those told. -/
import Derived.WalkKit
import Derived.Lib.IndexEntry
import Derived.WalkSpells
import Derived.WalkLawsBesides
import Derived.Lib.Hide
import Derived.Deep.QuietTactic
import Derived.BigQuiet
import Derived.WalkSmall
import Derived.Lib.ConvBytes
import Derived.Laws.IdiomStrings
import Derived.Deep.RegionLaw
import Derived.Lib.AppendStr
import Derived.Test.YtipdiddjhimdcaaGreatDoorRows
import Derived.Deep.RegionHeld3
set_option linter.unusedSimpArgs false
set_option linter.unusedVariables false
set_option maxRecDepth 100000
namespace Go.Proofs.YtipdiddjhimdcaaGreatDoor
theorem κ {p : Prop} (h : p) : Go.RowKit.Hid p := Lib.hid h
theorem ρ (n : Nat) : n ≤ n := Nat.le_refl n
section
open Go.RowKit
def us (s : ByteArray) : List UInt8 := s.data.toList
def bs (l : List UInt8) : ByteArray := ⟨l.toArray⟩
@[simp] theorem us_bs (l : List UInt8) : us (bs l) = l := by simp [us, bs]
@[simp] theorem bs_us (s : ByteArray) : bs (us s) = s := by cases s; rfl
@[simp] theorem size_bs (l : List UInt8) : (bs l).size = l.length := by show l.toArray.size = l.length; exact List.size_toArray ..
theorem length_us (s : ByteArray) : (us s).length = s.size := by show s.data.toList.length = s.data.size; exact Array.length_toList
theorem us_inj {a b : ByteArray} (h : us a = us b) : a = b := by have := congrArg bs h; simpa using this
theorem toList_us (s : ByteArray) : s.toList = us s := Lib.toList_data s
theorem toList_nil (s : ByteArray) : s.toList = [] ↔ s.size = 0 := by
 rw [toList_us, ← List.length_eq_zero_iff, length_us]
theorem ba_empty (s : ByteArray) : s = ByteArray.empty ↔ s.size = 0 := by
 constructor
 ·intro h; rw [h]; rfl
 ·intro h; apply us_inj; rw [List.eq_nil_of_length_eq_zero ((length_us s).trans h)]; rfl
theorem isEmpty_us (s : ByteArray) : s.toList.isEmpty = decide (s.size = 0) := by
 rw [Bool.eq_iff_iff, List.isEmpty_iff, toList_nil, decide_eq_true_iff]
theorem ne_empty {s : ByteArray} (h : s.size ≠ 0) : ¬ s = ByteArray.empty := fun e => h ((ba_empty s).1 e)
theorem isEmpty_f {s : ByteArray} (h : s.size ≠ 0) : s.toList.isEmpty = false := by rw [isEmpty_us]; exact decide_eq_false h
theorem eq_empty {s : ByteArray} (h : s.size = 0) : s = ByteArray.empty := (ba_empty s).2 h
theorem drop_us (s : ByteArray) (k : Nat) (h : k < s.size) : (us s).drop k = s[k] :: (us s).drop (k + 1) := by
 have hk : k < (us s).length := by rw [length_us]; exact h
 rw [List.drop_eq_getElem_cons hk]; rfl
theorem drop_us_end (s : ByteArray) (k : Nat) (h : s.size ≤ k) : (us s).drop k = [] := by
 rw [List.drop_eq_nil_iff, length_us]; exact h
theorem take_us (s : ByteArray) (k : Nat) (h : k < s.size) : (us s).take (k + 1) = (us s).take k ++ [s[k]] := by
 have hk : k < (us s).length := by rw [length_us]; exact h
 rw [List.take_succ_eq_append_getElem hk]; rfl
theorem get_us (s : ByteArray) (k : Nat) (h : k < s.size) : (us s)[k]? = some s[k] := by
 have hk : k < (us s).length := by rw [length_us]; exact h
 rw [List.getElem?_eq_getElem hk]; rfl
theorem all_bytes (P : UInt8 → Prop) (h : ∀ n : Fin 256, P (UInt8.ofNat n.val)) (c : UInt8) : P c := by
 have := h ⟨c.toNat, c.toNat_lt⟩
 simpa using this
def clsN (n : Nat) : Int :=
 if 48 ≤ n ∧ n ≤ 57 then 93
 else if (65 ≤ n ∧ n ≤ 70) ∨ (97 ≤ n ∧ n ≤ 102) then 94
 else if (65 ≤ n ∧ n ≤ 90) ∨ (97 ≤ n ∧ n ≤ 122) then 90
 else if n = 45 ∨ n = 46 then 88
 else if n = 33 ∨ n = 42 ∨ n = 95 ∨ n = 126 ∨ n = 39 then 24
 else if n = 37 ∨ n = 43 ∨ n = 96 then 8
 else if n = 40 ∨ n = 41 then 16
 else if n = 32 ∨ n = 9 then 32
 else 0
def cls (c : UInt8) : Int := clsN c.toNat
def testc (k : Int) (c : UInt8) : Bool := !(bits BinOp.and IntKind.i64 (cls c) k == 0)
def allc (k : Int) (l : List UInt8) : Bool := l.all (testc k)
def token (l : List UInt8) : Bool := decide (1 ≤ l.length) && decide (l.length ≤ 64) && allc 8 l
def low (c : UInt8) : UInt8 := if 65 ≤ c.toNat ∧ c.toNat ≤ 90 then c + 32 else c
def lowr (l : List UInt8) : List UInt8 := l.map low
def same (a b : List UInt8) : Bool := lowr a == lowr b
def blank (c : UInt8) : Bool := cls c == 32
def trimL (l : List UInt8) : List UInt8 := l.dropWhile blank
def trimR (l : List UInt8) : List UInt8 := (l.reverse.dropWhile blank).reverse
def trim (l : List UInt8) : List UInt8 := trimR (trimL l)
def hasb (l : List UInt8) (c : UInt8) : Bool := l.any fun x => x.toNat == c.toNat
def numGo (most : Int) : List UInt8 → Int → Int × Int
 | [], n => (n, 0)
 | c :: r, n => if most < (c.toNat : Int) - 48 ∨ (most - ((c.toNat : Int) - 48)) / 10 < n then (0, 9) else numGo most r (10 * n + ((c.toNat : Int) - 48))
def number (l : List UInt8) (most : Int) : Int × Int :=
 if l = [] ∨ allc 1 l = false then (0, 10) else numGo most l 0
def dig (n : Nat) : UInt8 := UInt8.ofNat (48 + n)
def digF : Nat → Nat → List UInt8
 | 0, _ => []
 | f + 1, n => if n < 10 then [dig n] else digF f (n / 10) ++ [dig (n % 10)]
def digits (n : Int) : List UInt8 := if n < 0 then [] else digF 20 n.toNat
def bare (c : UInt8) : Bool := c.toNat != 34 && c.toNat != 92 && c.toNat != 127 && (decide (32 ≤ c.toNat) || c.toNat == 9)
def broken (c : UInt8) : Bool := c.toNat == 0 || c.toNat == 10 || c.toNat == 13
def qbyte (c : UInt8) : List UInt8 := if bare c then [c] else [92, c]
def quote (l : List UInt8) : List UInt8 × Int := if l.any broken then ([], 11) else (34 :: (l.flatMap qbyte ++ [34]), 0)
def unqGo : List UInt8 → Option (List UInt8)
 | [] => some []
 | [c] => if bare c then some [c] else none
 | c :: d :: r =>
  if c.toNat = 92 then (if broken d || decide (127 < d.toNat) then none else (unqGo r).map (d :: ·))
  else if bare c then (unqGo (d :: r)).map (c :: ·) else none
def okOr (e : Int) : Option (List UInt8) → List UInt8 × Int
 | some r => (r, 0)
 | none => ([], e)
def unquote (l : List UInt8) : List UInt8 × Int :=
 if l.length < 2 ∨ l.head? ≠ some 34 ∨ l.getLast? ≠ some 34 then ([], 11)
 else okOr 11 (unqGo ((l.drop 1).take (l.length - 2)))
def worth (c : UInt8) : Nat := if c.toNat ≤ 57 then c.toNat - 48 else (low c).toNat - 87
def unesc : List UInt8 → Option (List UInt8)
 | [] => some []
 | c :: r =>
  if c.toNat = 37 then
   match r with
   | a :: b :: r' => if testc 4 a && testc 4 b then (unesc r').map (UInt8.ofNat (16 * worth a + worth b) :: ·) else none
   | _ => none
  else (unesc r).map (c :: ·)
def unescape (l : List UInt8) : List UInt8 × Int := okOr 12 (unesc l)
def partsGo (sep : UInt8) : Bool → Bool → List UInt8 → List UInt8 → List (List UInt8)
 | _, _, cur, [] => [cur]
 | q, a, cur, c :: r =>
  if q = true ∧ c.toNat = 92 then
   match r with
   | [] => [cur ++ [c]]
   | d :: r' => partsGo sep q a (cur ++ [c, d]) r'
  else if c.toNat = 34 then partsGo sep (!q) a (cur ++ [c]) r
  else if q = true then partsGo sep q a (cur ++ [c]) r
  else if c.toNat = 60 then partsGo sep q true (cur ++ [c]) r
  else if c.toNat = 62 then partsGo sep q false (cur ++ [c]) r
  else if c.toNat = sep.toNat ∧ a = false then cur :: partsGo sep q a [] r
  else partsGo sep q a (cur ++ [c]) r
def parts (l : List UInt8) (sep : UInt8) : List (List UInt8) := partsGo sep false false [] l
def glue (sep : List UInt8) : List (List UInt8) → List UInt8
 | [] => []
 | [x] => x
 | x :: y :: r => x ++ (sep ++ glue sep (y :: r))
end
section
open Go.RowKit
def bv (c : UInt8) : Value := .int .u8 c.toNat
@[simp] theorem bv_one (c : UInt8) : (bv c).oneCell' = true := rfl
def Drn (w w' : World) : Prop := ∃ n, w' = w.drewN n
theorem Drn.refl (w : World) : Drn w w := ⟨0, rfl⟩
theorem Drn.trans {a b c : World} (h : Drn a b) (k : Drn b c) : Drn a c := by
 obtain ⟨n, rfl⟩ := h; obtain ⟨m, rfl⟩ := k; exact ⟨n + m, World.drewN_drewN _ _ _⟩
theorem Drn.step {a b : World} (h : Drn a b) (n : Nat) : Drn a (b.drewN n) := h.trans ⟨n, rfl⟩
theorem Drn.below {B : Nat} {a b : World} (h : Drn a b) : Below B a b := by
 obtain ⟨n, rfl⟩ := h; exact below_drewN (Below.refl _ _) n
theorem quiet_same {P : Program} {f : FuncId} {args : Array Value} {w : World} {n : Nat} {v : Value}
  (h : Calls P f args (w.drewN n) fun e w' => e = .returned v ∧ w.drewN n = w') : Calls P f args (w.drewN n) fun e w'' => e = .returned v ∧ ∃ m, w'' = w.drewN m :=
 Calls.quiet_of_same (h.mono fun _ _ ⟨a, b⟩ => ⟨a, b.symm⟩)
def Byt (w : World) (base : Nat) (e : TypeId) (v : Value) (l : List UInt8) : Prop := w.ownsRow base e 1 v l.length (l.map bv)
theorem Byt.nil (w : World) (base : Nat) (e : TypeId) : Byt w base e (.slice none 0 0) [] := World.ownsRow_nil w base e 1
theorem Byt.drew {w : World} {base : Nat} {e : TypeId} {v : Value} {l : List UInt8} (h : Byt w base e v l) : Byt w.drew base e v l := h
theorem Byt.cast {w : World} {base : Nat} {e : TypeId} {v : Value} {l m : List UInt8} (h : Byt w base e v l) (hlm : l = m) : Byt w base e v m := hlm ▸ h
def infoIs (P : Program) (e : TypeId) (z : Value) (size bytes : Nat) : Prop :=
 (P.info? e).map (fun i => (i.zero, i.size, i.bytes)) = some (some z, size, bytes)
section
variable {P : Program} {ops : Array Oper} {rest : List Oper} {o : Oper} {a : Act} {Q : Exit → Act → World → Prop}
theorem op_app {K : Act → World → Prop} {wE w : World} {base : Nat} {e t : TypeId} {z : Value} {size bytes : Nat} {v : Value} {n : Nat} {xs : List Value} {s x : Operand} {news : Array Value} {m : Nat}
  (ho : o.op = .call { callee := .builtin .append, args := #[s, x], argTypes := #[t, t] })
  (ht : P.underlying t = some (.slice e)) (hi : infoIs P e z size bytes) (hzs : z.cells.size = size) (hsz : 0 < size)
  (hx : a.eval x = .slice (some ⟨w.heap.size, 0, none⟩) m m) (hs : a.eval s = v) (hown : w.ownsRow base e size v n xs) (hB : Below base wE w) (hbase : base ≤ wE.heap.size)
  (hm : news.size = m * size) (h1 : ∀ u ∈ news.toList, u.oneCell' = true) (hbytes : 0 < bytes) (hbd : (n + m) * bytes ≤ 140737488355328)
  (h : ∀ v' w', w'.ownsRow base e size v' (n + m) (xs ++ news.toList) → Below base wE w' → (0 < n + m → v' ≠ .slice none 0 0) → w.heap.size ≤ w'.heap.size → K (a.put o.dst v') w') :
  o.wp P a (w.alloc (.cells news e)) K Q := by
 obtain ⟨i, hi0, hi1, hi2, hi3⟩ := info_parts hi
 have hnm : n + m ≤ (n + m) * bytes := Nat.le_mul_of_pos_right _ hbytes
 have hsz2 := hB.size
 refine wp_append_own _ s x t ho base e i z size bytes ht hi0 hi1 hi2 hi3 hzs hsz v n xs hs (hown.alloc _) ⟨w.heap.size, 0, none⟩ m m news.toList hx (by simpa using hm) ?_ h1 (by simp only [maxLen]; omega) hbd (by simp; omega) ?_
 ·intro j u hu
  have hadd : (⟨w.heap.size, 0, none⟩ : Addr).add j = ⟨w.heap.size, j, none⟩ := by unfold Addr.add; split <;> simp_all
  rw [hadd, World.cell?_alloc_at _ _ _ _ rfl]
  simpa using hu
 ·intro v' w' ho' hg hnil
  have hB' : Below base wE (w.alloc (.cells news e)) := hB.alloc (by omega) _
  refine h v' w' ho' (hB'.grown hg (by simp; omega) ?_) ?_ ?_
  ·intro k hk; exact ((hown.lt) k hk).1
  ·intro hp e0
   have := hnil.1 e0
   have hn0 : n = 0 := by
    have := hown.2
    rcases this with ⟨_, h⟩ | ⟨g, c, cur, hv, _⟩
    ·exact h
    ·rw [hv] at this; simp_all
   omega
  ·have := hg.size; simp at this; omega
theorem wpList_app {wE w : World} {base : Nat} {e t : TypeId} {z : Value} {size bytes : Nat} {v : Value} {n : Nat} {xs : List Value} {s x : Operand} {news : Array Value} {m : Nat}
  (hgd : o.guard = none) (ho : o.op = .call { callee := .builtin .append, args := #[s, x], argTypes := #[t, t] })
  (ht : P.underlying t = some (.slice e)) (hi : infoIs P e z size bytes) (hzs : z.cells.size = size) (hsz : 0 < size)
  (hx : a.eval x = .slice (some ⟨w.heap.size, 0, none⟩) m m) (hs : a.eval s = v) (hown : w.ownsRow base e size v n xs) (hB : Below base wE w) (hbase : base ≤ wE.heap.size)
  (hm : news.size = m * size) (h1 : ∀ u ∈ news.toList, u.oneCell' = true) (hbytes : 0 < bytes) (hbd : (n + m) * bytes ≤ 140737488355328)
  (h : ∀ v' w', w'.ownsRow base e size v' (n + m) (xs ++ news.toList) → Below base wE w' → (0 < n + m → v' ≠ .slice none 0 0) → w.heap.size ≤ w'.heap.size → wpList P ops Q rest (a.put o.dst v') w') :
  wpList P ops Q (o :: rest) a (w.alloc (.cells news e)) :=
 wpList_plain hgd fun _ hK => op_app ho ht hi hzs hsz hx hs hown hB hbase hm h1 hbytes hbd fun v' w' a b c d => hK _ _ (h v' w' a b c d)
theorem step_of {K : Act → World → Prop} {w : World} {E : Prop} (hg : o.guard = none) (h : o.wp P a w K Q) :
  if Region.wanted o (yielded ops a.tmps) = true then Oper.wp P o a w K Q else E := by
 have hw : Region.wanted o (yielded ops a.tmps) = true := by simp [Region.wanted, hg]
 rw [if_pos hw]; exact h
theorem step_call {K : Act → World → Prop} {w : World} {E : Prop} {f : FuncId} {xs : Array Operand} {ts : Array TypeId} {args : Array Value} {v : Value}
  (hg : o.guard = none) (ho : o.op = .call { callee := .value (.func f), args := xs, argTypes := ts })
  {fn : Func} (hf : P.funcs[f]? = some fn) (hnm : (fn.name == "runtime.NumGoroutine") = false) (hbd : fn.body.isNone = false)
  (hx : xs.map a.eval = args) (hC : Calls P f args w fun e w' => e = .returned v ∧ w = w') (hK : K (a.put o.dst v) w) :
  if Region.wanted o (yielded ops a.tmps) = true then Oper.wp P o a w K Q else E := by
 refine step_of hg ?_
 subst hx
 unfold Oper.wp
 have h1 : fn.name ≠ "runtime.NumGoroutine" := by simpa using hnm
 have h2 : fn.body ≠ none := by intro e; rw [e] at hbd; cases hbd
 have hrun : (execOp a.eval o).run P w = .ok (.enter f (xs.map a.eval)) w := by
  simp [execOp, ho, resolve, Deferred.ofValue, invoke, callFunc, Act.eval, hf, h1, h2, Result.andThen]
 rw [hrun]
 refine hC.mono ?_
 rintro e w' ⟨rfl, rfl⟩
 exact hK
theorem step_call1 {K : Act → World → Prop} {w : World} {E : Prop} {f : FuncId} {x : Operand} {ts : Array TypeId} {v0 v : Value}
  (hg : o.guard = none) (ho : o.op = .call { callee := .value (.func f), args := #[x], argTypes := ts }) {fn : Func} (hf : P.funcs[f]? = some fn) (hnm : (fn.name == "runtime.NumGoroutine") = false) (hbd : fn.body.isNone = false)
  (hx : a.eval x = v0) (hC : Calls P f #[v0] w fun e w' => e = .returned v ∧ w = w') (hK : K (a.put o.dst v) w) :
  if Region.wanted o (yielded ops a.tmps) = true then Oper.wp P o a w K Q else E :=
 step_call hg ho hf hnm hbd (by simp [hx]) hC hK
theorem op_appB {K : Act → World → Prop} {wE w : World} {base : Nat} {e t : TypeId} {v : Value} {l : List UInt8} {s x : Operand} (cs : List UInt8)
  (ho : o.op = .call { callee := .builtin .append, args := #[s, x], argTypes := #[t, t] })
  (ht : P.underlying t = some (.slice e)) (hi : infoIs P e (.int .u8 0) 1 1)
  (hx : a.eval x = .slice (some ⟨w.heap.size, 0, none⟩) cs.length cs.length) (hs : a.eval s = v) (hown : Byt w base e v l) (hB : Below base wE w) (hbase : base ≤ wE.heap.size)
  (hbd : l.length + cs.length ≤ 140737488355328)
  (h : ∀ v' w', Byt w' base e v' (l ++ cs) → Below base wE w' → K (a.put o.dst v') w') :
  o.wp P a (w.alloc (.cells (cs.map bv).toArray e)) K Q := by
 refine op_app ho ht hi rfl (by decide) hx hs hown hB hbase (by simp) (by simp) (by decide) (by omega) ?_
 intro v' w' h1 h2 _ _
 refine h v' w' ?_ h2
 unfold Byt; simpa using h1
theorem wpList_appB {wE w : World} {base : Nat} {e t : TypeId} {v : Value} {l : List UInt8} {s x : Operand} (cs : List UInt8)
  (hgd : o.guard = none) (ho : o.op = .call { callee := .builtin .append, args := #[s, x], argTypes := #[t, t] })
  (ht : P.underlying t = some (.slice e)) (hi : infoIs P e (.int .u8 0) 1 1)
  (hx : a.eval x = .slice (some ⟨w.heap.size, 0, none⟩) cs.length cs.length) (hs : a.eval s = v) (hown : Byt w base e v l) (hB : Below base wE w) (hbase : base ≤ wE.heap.size)
  (hbd : l.length + cs.length ≤ 140737488355328)
  (h : ∀ v' w', Byt w' base e v' (l ++ cs) → Below base wE w' → wpList P ops Q rest (a.put o.dst v') w') :
  wpList P ops Q (o :: rest) a (w.alloc (.cells (cs.map bv).toArray e)) :=
 wpList_plain hgd fun _ hK => op_appB cs ho ht hi hx hs hown hB hbase hbd fun v' w' a b => hK _ _ (h v' w' a b)
theorem step_appB1 {K : Act → World → Prop} {E' : Prop} {wE w : World} {base : Nat} {e t : TypeId} {v : Value} {l : List UInt8} {s x : Operand} {E : Int} (c : UInt8) (hE : E = (c.toNat : Int))
  (hgd : o.guard = none) (ho : o.op = .call { callee := .builtin .append, args := #[s, x], argTypes := #[t, t] })
  (ht : P.underlying t = some (.slice e)) (hi : infoIs P e (.int .u8 0) 1 1)
  (hx : a.eval x = .slice (some ⟨w.heap.size, 0, none⟩) 1 1) (hs : a.eval s = v) (hown : Byt w base e v l) (hB : Below base wE w) (hbase : base ≤ wE.heap.size)
  (hbd : l.length + 1 ≤ 140737488355328)
  (h : ∀ v' w', Byt w' base e v' (l ++ [c]) → Below base wE w' → K (a.put o.dst v') w') :
  if Region.wanted o (yielded ops a.tmps) = true then Oper.wp P o a (w.alloc (.cells #[.int .u8 E] e)) K Q else E' := by
 subst hE
 exact step_of hgd (op_appB [c] ho ht hi hx hs hown hB hbase hbd h)
theorem wpList_appB1 {wE w : World} {base : Nat} {e t : TypeId} {v : Value} {l : List UInt8} {s x : Operand} {E : Int} (c : UInt8) (hE : E = (c.toNat : Int))
  (hgd : o.guard = none) (ho : o.op = .call { callee := .builtin .append, args := #[s, x], argTypes := #[t, t] })
  (ht : P.underlying t = some (.slice e)) (hi : infoIs P e (.int .u8 0) 1 1)
  (hx : a.eval x = .slice (some ⟨w.heap.size, 0, none⟩) 1 1) (hs : a.eval s = v) (hown : Byt w base e v l) (hB : Below base wE w) (hbase : base ≤ wE.heap.size)
  (hbd : l.length + 1 ≤ 140737488355328)
  (h : ∀ v' w', Byt w' base e v' (l ++ [c]) → Below base wE w' → wpList P ops Q rest (a.put o.dst v') w') :
  wpList P ops Q (o :: rest) a (w.alloc (.cells #[.int .u8 E] e)) := by
 subst hE
 exact wpList_appB [c] hgd ho ht hi hx hs hown hB hbase hbd h
theorem wpList_appB2 {wE w : World} {base : Nat} {e t : TypeId} {v : Value} {l : List UInt8} {s x : Operand} {E F : Int} (c d : UInt8) (hE : E = (c.toNat : Int)) (hF : F = (d.toNat : Int))
  (hgd : o.guard = none) (ho : o.op = .call { callee := .builtin .append, args := #[s, x], argTypes := #[t, t] })
  (ht : P.underlying t = some (.slice e)) (hi : infoIs P e (.int .u8 0) 1 1)
  (hx : a.eval x = .slice (some ⟨w.heap.size, 0, none⟩) 2 2) (hs : a.eval s = v) (hown : Byt w base e v l) (hB : Below base wE w) (hbase : base ≤ wE.heap.size)
  (hbd : l.length + 2 ≤ 140737488355328)
  (h : ∀ v' w', Byt w' base e v' (l ++ [c, d]) → Below base wE w' → wpList P ops Q rest (a.put o.dst v') w') :
  wpList P ops Q (o :: rest) a (w.alloc (.cells #[.int .u8 E, .int .u8 F] e)) := by
 subst hE hF
 exact wpList_appB [c, d] hgd ho ht hi hx hs hown hB hbase hbd h
theorem wpList_str {w : World} {base : Nat} {e src dst : TypeId} {v : Value} {l : List UInt8} {x : Operand}
  (hgd : o.guard = none) (ho : o.op = .convert src dst x)
  (hs : P.underlying src = some (.slice e)) (he : P.underlying e = some (.int .u8)) (hd : P.underlying dst = some .string)
  (hx : a.eval x = v) (hown : Byt w base e v l)
  (h : wpList P ops Q rest (a.put o.dst (.string (bs l))) w) :
  wpList P ops Q (o :: rest) a w := by
 refine wpList_plain hgd fun K hK => ?_
 have hrun : (convert src dst v).run P w = .ok (.string (bs l)) w := by
  rcases hown.2 with ⟨rfl, hn⟩ | ⟨g, cap, cur, rfl, _, hg, hnc, hcm, hcs, htake⟩
  ·have hl := List.eq_nil_of_length_eq_zero hn
   subst hl
   exact run_convert_bytes_nil w src e hs he 0 0 dst hd
  ·refine run_convert_bytes_back w src dst e ⟨g, 0, none⟩ cap l hs he hd ?_
   intro j hj
   have := hown.cells (g := g) rfl j (bv l[j]) (by simp [hj])
   exact this
 unfold Oper.wp
 simp [execOp, ho, hx, hrun, Result.andThen]
 exact hK _ _ h
theorem wpList_strAt {w : World} {e src dst : TypeId} {g off n cap : Nat} {l : List UInt8} {x : Operand}
  (hgd : o.guard = none) (ho : o.op = .convert src dst x)
  (hs : P.underlying src = some (.slice e)) (he : P.underlying e = some (.int .u8)) (hd : P.underlying dst = some .string)
  (hx : a.eval x = .slice (some ⟨g, off, none⟩) n cap) (hn : l.length = n)
  (hc : ∀ j (hj : j < l.length), w.cell? ⟨g, off + j, none⟩ = some (bv l[j]))
  (h : wpList P ops Q rest (a.put o.dst (.string (bs l))) w) :
  wpList P ops Q (o :: rest) a w := by
 subst hn
 refine wpList_plain hgd fun K hK => ?_
 have hrun : (convert src dst (.slice (some ⟨g, off, none⟩) l.length cap)).run P w = .ok (.string (bs l)) w := by
  refine run_convert_bytes_back w src dst e ⟨g, off, none⟩ cap l hs he hd ?_
  intro j hj
  have hadd : (⟨g, off, none⟩ : Addr).add j = ⟨g, off + j, none⟩ := by unfold Addr.add; split <;> simp_all
  rw [hadd]; exact hc j hj
 unfold Oper.wp
 simp [execOp, ho, hx, hrun, Result.andThen]
 exact hK _ _ h
def bytesAt (w : World) (e : TypeId) (g : Nat) (l : List UInt8) : Prop :=
 ∃ cur lo hi, w.heap[g]? = some (.cells cur e (lo, hi)) ∧ l.length ≤ cur.size ∧ l.length ≤ lo ∧ cur.toList.take l.length = l.map bv
theorem wpList_bytes {w : World} {e src dst : TypeId} {s : ByteArray} {x : Operand}
  (hgd : o.guard = none) (ho : o.op = .convert src dst x)
  (hs : P.underlying src = some .string) (hd : P.underlying dst = some (.slice e)) (he : P.underlying e = some (.int .u8))
  (hx : a.eval x = .string s)
  (h : ∀ cap w', bytesAt w' e w.heap.size (us s) → Below w.heap.size w w' → w.heap.size < w'.heap.size → s.size ≤ cap → wpList P ops Q rest (a.put o.dst (.slice (some ⟨w.heap.size, 0, none⟩) s.size cap)) w') :
  wpList P ops Q (o :: rest) a w := by
 refine wpList_plain hgd fun K hK => ?_
 have hrun := Lib.run_convert_string_bytes (P := P) w src dst e s hs hd he
 unfold Oper.wp
 simp [execOp, ho, hx, hrun, Result.andThen]
 have hbc : s.size ≤ (Lib.bytesCells w e s).size := by
  unfold Lib.bytesCells; rw [Array.size_append, Array.size_map]; exact Nat.le_add_right s.data.size _
 have hcap : s.size ≤ grownCap w s.size 0 e := grownCap_ge w s.size 0 e
 refine hK _ _ (h _ _ ⟨_, _, _, Lib.bytesWorld_at_new w e s, ?_, ?_, ?_⟩ ⟨rfl, rfl, rfl, ?_, fun k hk => Lib.bytesWorld_at_old w e s k hk⟩ ?_ hcap)
 ·rw [length_us]; exact hbc
 ·rw [length_us]; exact hbc
 ·simp only [Lib.bytesCells, Array.toList_append, Array.toList_map]
  rw [List.take_append_of_le_length (by simp [us])]
  rw [List.take_of_length_le (by simp [us])]
  rfl
 ·rw [Lib.bytesWorld_size]; omega
 ·rw [Lib.bytesWorld_size]; omega
end
theorem bytesAt.cell {w : World} {e : TypeId} {g : Nat} {l : List UInt8} (h : bytesAt w e g l) (j : Nat) (hj : j < l.length) : w.cell? ⟨g, j, none⟩ = some (bv l[j]) := by
 obtain ⟨cur, lo, hi, hg, h1, h2, h3⟩ := h
 have : cur[j]? = some (bv l[j]) := by
  have e1 : (cur.toList.take l.length)[j]? = some (bv l[j]) := by rw [h3]; simp [hj]
  rw [List.getElem?_take] at e1
  simpa [hj] using e1
 simp [World.cell?, hg, this]
theorem bytesAt.free {w : World} {e : TypeId} {g : Nat} {l : List UInt8} (h : bytesAt w e g l) (j : Nat) (hj : j < l.length) : w.frozen? ⟨g, j, none⟩ = false := by
 obtain ⟨cur, lo, hi, hg, h1, h2, h3⟩ := h
 simp [World.frozen?, hg]; omega
theorem bytesAt.set {w : World} {e : TypeId} {g : Nat} {l : List UInt8} (h : bytesAt w e g l) (j : Nat) (_hj : j < l.length) (c : UInt8) : bytesAt (w.setCell ⟨g, j, none⟩ (bv c)) e g (l.set j c) := by
 obtain ⟨cur, lo, hi, hg, h1, h2, h3⟩ := h
 refine ⟨cur.setIfInBounds j (bv c), lo, hi, ?_, by simpa using h1, by simpa using h2, ?_⟩
 ·simp only [World.setCell, Array.getElem?_modify, hg]; simp
 ·rw [Array.toList_setIfInBounds, List.length_set, List.map_set, ← h3, List.take_set]
end
section
open Go.RowKit
theorem Byt.below {w w' : World} {base B : Nat} {e : TypeId} {v : Value} {l : List UInt8} (h : Byt w base e v l) (hB : Below B w w') (hs : w.heap.size ≤ B) : Byt w' base e v l := by
 refine ⟨h.1, ?_⟩
 rcases h.2 with hn | ⟨g, cap, cur, rfl, hb, hgg, rest⟩
 ·exact .inl hn
 ·refine .inr ⟨g, cap, cur, rfl, hb, ?_, rest⟩
  have hlt := (Array.getElem?_eq_some_iff.1 hgg).1
  rw [hB.block g (by omega)]; exact hgg
section
variable {P : Program} {ops : Array Oper} {rest : List Oper} {o : Oper} {a : Act} {Q : Exit → Act → World → Prop}
theorem step_callB1 {K : Act → World → Prop} {w : World} {E : Prop} {f : FuncId} {x : Operand} {ts : Array TypeId} {v0 v : Value}
  (hg : o.guard = none) (ho : o.op = .call { callee := .value (.func f), args := #[x], argTypes := ts }) {fn : Func} (hf : P.funcs[f]? = some fn) (hnm : (fn.name == "runtime.NumGoroutine") = false) (hbd : fn.body.isNone = false)
  (hx : a.eval x = v0) (hC : Calls P f #[v0] w fun e w' => e = .returned v ∧ Below w.heap.size w w') (hK : ∀ w', Below w.heap.size w w' → K (a.put o.dst v) w') :
  if Region.wanted o (yielded ops a.tmps) = true then Oper.wp P o a w K Q else E := by
 refine step_of hg ?_
 unfold Oper.wp
 have h1 : fn.name ≠ "runtime.NumGoroutine" := by simpa using hnm
 have h2 : fn.body ≠ none := by intro e; rw [e] at hbd; cases hbd
 have hrun : (execOp a.eval o).run P w = .ok (.enter f #[v0]) w := by
  subst hx
  simp [execOp, ho, resolve, Deferred.ofValue, invoke, callFunc, Act.eval, hf, h1, h2, Result.andThen]
 rw [hrun]
 refine hC.mono ?_
 rintro e w' ⟨rfl, hB⟩
 exact hK w' hB
end
end
section
open Go.RowKit
def RRow (w : World) (v : Value) (n : Nat) (xs : List Value) : Prop :=
 ((∃ ao cap, v = .slice ao 0 cap) ∧ n = 0 ∧ xs = []) ∨
 ∃ b off cap, v = .slice (some ⟨b, off, none⟩) n cap ∧ n ≤ cap ∧ cap ≤ maxLen ∧ b < w.heap.size ∧ ∀ j u, xs[j]? = some u → w.cell? ⟨b, off + j, none⟩ = some u
theorem RRow.below {w w' : World} {B : Nat} {v : Value} {n : Nat} {xs : List Value} (h : RRow w v n xs) (hB : Below B w w') (hs : w.heap.size ≤ B) : RRow w' v n xs := by
 rcases h with h | ⟨b, off, cap, h1, h2, h2', h3, h4⟩
 ·exact .inl h
 ·exact .inr ⟨b, off, cap, h1, h2, h2', Nat.lt_of_lt_of_le h3 hB.size, fun j u hj => by rw [hB.cell (p := ⟨b, off + j, none⟩) (by show b < B; omega)]; exact h4 j u hj⟩
theorem RRow.of_own {w : World} {base : Nat} {e : TypeId} {size : Nat} {v : Value} {n : Nat} {xs : List Value} (h : w.ownsRow base e size v n xs) : RRow w v n xs := by
 rcases h.2 with ⟨h1, h2⟩ | ⟨g, cap, cur, h1, hb, hg, hn, hc, _⟩
 ·refine .inl ⟨⟨none, 0, h1⟩, h2, List.eq_nil_of_length_eq_zero ?_⟩
  rw [h.1, h2, Nat.zero_mul]
 ·refine .inr ⟨g, 0, cap, h1, hn, hc, (Array.getElem?_eq_some_iff.1 hg).1, fun j u hj => ?_⟩
  have := h.cells (g := g) (by rw [h1]; rfl) j u hj
  have hadd : (⟨g, 0, none⟩ : Addr).add j = ⟨g, j, none⟩ := by unfold Addr.add; split <;> simp_all
  rw [hadd] at this
  simpa using this
theorem RRow.nil (w : World) : RRow w (.slice none 0 0) 0 [] := .inl ⟨⟨_, _, rfl⟩, rfl, rfl⟩
def sv (l : List UInt8) : Value := .string (bs l)
@[simp] theorem sv_one (l : List UInt8) : (sv l).oneCell' = true := rfl
def RStrs (w : World) (v : Value) (L : List (List UInt8)) : Prop := RRow w v L.length (L.map sv)
def Strs (w : World) (base : Nat) (e : TypeId) (v : Value) (L : List (List UInt8)) : Prop := w.ownsRow base e 1 v L.length (L.map sv)
theorem Strs.nil (w : World) (base : Nat) (e : TypeId) : Strs w base e (.slice none 0 0) [] := World.ownsRow_nil w base e 1
theorem Strs.read {w : World} {base : Nat} {e : TypeId} {v : Value} {L : List (List UInt8)} (h : Strs w base e v L) : RStrs w v L := RRow.of_own h
theorem Strs.below {w w' : World} {base B : Nat} {e : TypeId} {v : Value} {L : List (List UInt8)} (h : Strs w base e v L) (hB : Below B w w') (hs : w.heap.size ≤ B) : Strs w' base e v L := by
 refine ⟨h.1, ?_⟩
 rcases h.2 with hn | ⟨g, cap, cur, rfl, hb, hgg, rest⟩
 ·exact .inl hn
 ·refine .inr ⟨g, cap, cur, rfl, hb, ?_, rest⟩
  have hlt := (Array.getElem?_eq_some_iff.1 hgg).1
  rw [hB.block g (by omega)]; exact hgg
theorem Strs.cast {w : World} {base : Nat} {e : TypeId} {v : Value} {L M : List (List UInt8)} (h : Strs w base e v L) (hlm : L = M) : Strs w base e v M := hlm ▸ h
theorem RStrs.below {w w' : World} {B : Nat} {v : Value} {L : List (List UInt8)} (h : RStrs w v L) (hB : Below B w w') (hs : w.heap.size ≤ B) : RStrs w' v L := RRow.below h hB hs
theorem RStrs.cases {w : World} {v : Value} {L : List (List UInt8)} (h : RStrs w v L) : ((∃ ao cap, v = .slice ao 0 cap) ∧ L = []) ∨
  ∃ b off cap, v = .slice (some ⟨b, off, none⟩) L.length cap ∧ L.length ≤ cap ∧ cap ≤ maxLen ∧ b < w.heap.size ∧ ∀ j (hj : j < L.length), w.cell? ⟨b, off + j, none⟩ = some (.string (bs L[j])) := by
 rcases h with ⟨h1, h2, _⟩ | ⟨b, off, cap, h1, h2, h2', h3, h4⟩
 ·exact .inl ⟨h1, List.eq_nil_of_length_eq_zero h2⟩
 ·exact .inr ⟨b, off, cap, h1, h2, h2', h3, fun j hj => h4 j _ (by simp [hj, sv])⟩
section
variable {P : Program} {ops : Array Oper} {rest : List Oper} {o : Oper} {a : Act} {Q : Exit → Act → World → Prop}
theorem op_appS1 {K : Act → World → Prop} {wE w : World} {base : Nat} {e t : TypeId} {v : Value} {L : List (List UInt8)} {s x : Operand} {S : ByteArray} (l : List UInt8) (hS : us S = l)
  (ho : o.op = .call { callee := .builtin .append, args := #[s, x], argTypes := #[t, t] })
  (ht : P.underlying t = some (.slice e)) (hi : infoIs P e (.string ⟨#[]⟩) 1 16)
  (hx : a.eval x = .slice (some ⟨w.heap.size, 0, none⟩) 1 1) (hs : a.eval s = v) (hown : Strs w base e v L) (hB : Below base wE w) (hbase : base ≤ wE.heap.size)
  (hbd : (L.length + 1) * 16 ≤ 140737488355328)
  (h : ∀ v' w', Strs w' base e v' (L ++ [l]) → Below base wE w' → K (a.put o.dst v') w') :
  o.wp P a (w.alloc (.cells #[.string S] e)) K Q := by
 subst hS
 refine op_app ho ht hi rfl (by decide) hx hs hown hB hbase rfl (by simp; rfl) (by decide) hbd ?_
 intro v' w' h1 h2 _ _
 refine h v' w' ?_ h2
 unfold Strs; simpa [sv] using h1
theorem wpList_appS1 {wE w : World} {base : Nat} {e t : TypeId} {v : Value} {L : List (List UInt8)} {s x : Operand} {S : ByteArray} (l : List UInt8) (hS : us S = l)
  (hgd : o.guard = none) (ho : o.op = .call { callee := .builtin .append, args := #[s, x], argTypes := #[t, t] })
  (ht : P.underlying t = some (.slice e)) (hi : infoIs P e (.string ⟨#[]⟩) 1 16)
  (hx : a.eval x = .slice (some ⟨w.heap.size, 0, none⟩) 1 1) (hs : a.eval s = v) (hown : Strs w base e v L) (hB : Below base wE w) (hbase : base ≤ wE.heap.size)
  (hbd : (L.length + 1) * 16 ≤ 140737488355328)
  (h : ∀ v' w', Strs w' base e v' (L ++ [l]) → Below base wE w' → wpList P ops Q rest (a.put o.dst v') w') :
  wpList P ops Q (o :: rest) a (w.alloc (.cells #[.string S] e)) :=
 wpList_plain hgd fun _ hK => op_appS1 l hS ho ht hi hx hs hown hB hbase hbd fun v' w' a b => hK _ _ (h v' w' a b)
end
end
section
open Go.RowKit
def Kept (e : TypeId) (w w' : World) : Prop := ∀ (g : Nat) (cs : Array Value) (t : TypeId) (fr : Nat × Nat), w.heap[g]? = some (.cells cs t fr) → t ≠ e → w'.heap[g]? = some (.cells cs t fr)
theorem own_kept {w w' : World} {base : Nat} {e e' : TypeId} {size n : Nat} {v : Value} {xs : List Value} (h : w.ownsRow base e size v n xs) (hk : Kept e' w w') (hne : e ≠ e') : w'.ownsRow base e size v n xs := by
 refine ⟨h.1, ?_⟩
 rcases h.2 with hn | ⟨g, cap, cur, rfl, hb, hgg, rest⟩
 ·exact .inl hn
 ·exact .inr ⟨g, cap, cur, rfl, hb, hk _ _ _ _ hgg hne, rest⟩
theorem Strs.kept {w w' : World} {base : Nat} {e e' : TypeId} {v : Value} {L : List (List UInt8)} (h : Strs w base e v L) (hk : Kept e' w w') (hne : e ≠ e') : Strs w' base e v L := own_kept h hk hne
theorem Byt.kept {w w' : World} {base : Nat} {e e' : TypeId} {v : Value} {l : List UInt8} (h : Byt w base e v l) (hk : Kept e' w w') (hne : e ≠ e') : Byt w' base e v l := own_kept h hk hne
section
variable {P : Program} {ops : Array Oper} {rest : List Oper} {o : Oper} {a : Act} {Q : Exit → Act → World → Prop}
theorem op_appK {K : Act → World → Prop} {wE w : World} {base : Nat} {e t : TypeId} {z : Value} {size bytes : Nat} {v : Value} {n : Nat} {xs : List Value} {s x : Operand} {news : Array Value} {m : Nat}
  (ho : o.op = .call { callee := .builtin .append, args := #[s, x], argTypes := #[t, t] })
  (ht : P.underlying t = some (.slice e)) (hi : infoIs P e z size bytes) (hzs : z.cells.size = size) (hsz : 0 < size)
  (hx : a.eval x = .slice (some ⟨w.heap.size, 0, none⟩) m m) (hs : a.eval s = v) (hown : w.ownsRow base e size v n xs) (hB : Below base wE w) (hbase : base ≤ wE.heap.size)
  (hm : news.size = m * size) (h1 : ∀ u ∈ news.toList, u.oneCell' = true) (hbytes : 0 < bytes) (hbd : (n + m) * bytes ≤ 140737488355328)
  (h : ∀ v' w', w'.ownsRow base e size v' (n + m) (xs ++ news.toList) → Below base wE w' → Kept e w w' → K (a.put o.dst v') w') :
  o.wp P a (w.alloc (.cells news e)) K Q := by
 obtain ⟨i, hi0, hi1, hi2, hi3⟩ := info_parts hi
 have hnm : n + m ≤ (n + m) * bytes := Nat.le_mul_of_pos_right _ hbytes
 have hsz2 := hB.size
 refine wp_append_own _ s x t ho base e i z size bytes ht hi0 hi1 hi2 hi3 hzs hsz v n xs hs (hown.alloc _) ⟨w.heap.size, 0, none⟩ m m news.toList hx (by simpa using hm) ?_ h1 (by simp only [maxLen]; omega) hbd (by simp; omega) ?_
 ·intro j u hu
  have hadd : (⟨w.heap.size, 0, none⟩ : Addr).add j = ⟨w.heap.size, j, none⟩ := by unfold Addr.add; split <;> simp_all
  rw [hadd, World.cell?_alloc_at _ _ _ _ rfl]
  simpa using hu
 ·intro v' w' ho' hg _
  have hB' : Below base wE (w.alloc (.cells news e)) := hB.alloc (by omega) _
  refine h v' w' ho' (hB'.grown hg (by simp; omega) ?_) ?_
  ·intro k hk; exact ((hown.lt) k hk).1
  ·intro g cs t' fr hgg hne
   have hlt := (Array.getElem?_eq_some_iff.1 hgg).1
   rw [hg.block g (by rw [World.size_alloc]; omega) ?_, Below.heap_alloc _ _ _ hlt, hgg]
   rcases hown.2 with ⟨rfl, _⟩ | ⟨g', cap, cur, rfl, _, hh, _⟩
   ·simp [Value.ownBlock]
   ·intro he
    have : g = g' := by simpa [Value.ownBlock] using he
    subst this
    rw [hh] at hgg
    injection hgg with hgg
    injection hgg with _ htt
    exact hne htt.symm
theorem wpList_appK_S {wE w : World} {base : Nat} {e t : TypeId} {v : Value} {L : List (List UInt8)} {s x : Operand} {S : ByteArray} (l : List UInt8) (hS : us S = l)
  (hgd : o.guard = none) (ho : o.op = .call { callee := .builtin .append, args := #[s, x], argTypes := #[t, t] })
  (ht : P.underlying t = some (.slice e)) (hi : infoIs P e (.string ⟨#[]⟩) 1 16)
  (hx : a.eval x = .slice (some ⟨w.heap.size, 0, none⟩) 1 1) (hs : a.eval s = v) (hown : Strs w base e v L) (hB : Below base wE w) (hbase : base ≤ wE.heap.size)
  (hbd : (L.length + 1) * 16 ≤ 140737488355328)
  (h : ∀ v' w', Strs w' base e v' (L ++ [l]) → Below base wE w' → Kept e w w' → wpList P ops Q rest (a.put o.dst v') w') :
  wpList P ops Q (o :: rest) a (w.alloc (.cells #[.string S] e)) := by
 subst hS
 refine wpList_plain hgd fun _ hK => op_appK ho ht hi rfl (by decide) hx hs hown hB hbase rfl (by simp; rfl) (by decide) hbd ?_
 intro v' w' h1 h2 h3
 refine hK _ _ (h v' w' ?_ h2 h3)
 unfold Strs; simpa [sv] using h1
theorem wpList_appK_B {wE w : World} {base : Nat} {e t : TypeId} {v : Value} {l : List UInt8} {s x : Operand} {E : Int} (c : UInt8) (hE : E = (c.toNat : Int))
  (hgd : o.guard = none) (ho : o.op = .call { callee := .builtin .append, args := #[s, x], argTypes := #[t, t] })
  (ht : P.underlying t = some (.slice e)) (hi : infoIs P e (.int .u8 0) 1 1)
  (hx : a.eval x = .slice (some ⟨w.heap.size, 0, none⟩) 1 1) (hs : a.eval s = v) (hown : Byt w base e v l) (hB : Below base wE w) (hbase : base ≤ wE.heap.size)
  (hbd : l.length + 1 ≤ 140737488355328)
  (h : ∀ v' w', Byt w' base e v' (l ++ [c]) → Below base wE w' → Kept e w w' → wpList P ops Q rest (a.put o.dst v') w') :
  wpList P ops Q (o :: rest) a (w.alloc (.cells #[.int .u8 E] e)) := by
 subst hE
 refine wpList_plain hgd fun _ hK => op_appK ho ht hi rfl (by decide) hx hs hown hB hbase rfl (by simp; rfl) (by decide) (by omega) ?_
 intro v' w' h1 h2 h3
 refine hK _ _ (h v' w' ?_ h2 h3)
 unfold Byt; simpa [bv] using h1
end
end
section
open Go.RowKit
end
section
open Go.RowKit
section
variable {P : Program} {ops : Array Oper} {o : Oper} {a : Act} {Q : Exit → Act → World → Prop}
theorem step_wB1 {K : Act → World → Prop} {w : World} {E : Prop} {f : FuncId} {x : Operand} {ts : Array TypeId} {v0 v : Value}
  (hw : Region.wanted o (yielded ops a.tmps) = true) (ho : o.op = .call { callee := .value (.func f), args := #[x], argTypes := ts }) {fn : Func} (hf : P.funcs[f]? = some fn) (hnm : (fn.name == "runtime.NumGoroutine") = false) (hbd : fn.body.isNone = false)
  (hx : a.eval x = v0) (hC : Calls P f #[v0] w fun e w' => e = .returned v ∧ Below w.heap.size w w') (hK : ∀ w', Below w.heap.size w w' → K (a.put o.dst v) w') :
  if Region.wanted o (yielded ops a.tmps) = true then Oper.wp P o a w K Q else E := by
 rw [if_pos hw]
 unfold Oper.wp
 have h1 : fn.name ≠ "runtime.NumGoroutine" := by simpa using hnm
 have h2 : fn.body ≠ none := by intro e; rw [e] at hbd; cases hbd
 have hrun : (execOp a.eval o).run P w = .ok (.enter f #[v0]) w := by
  subst hx
  simp [execOp, ho, resolve, Deferred.ofValue, invoke, callFunc, Act.eval, hf, h1, h2, Result.andThen]
 rw [hrun]
 refine hC.mono ?_
 rintro e w' ⟨rfl, hB⟩
 exact hK w' hB
end
end
section
open Go.RowKit
theorem or32 (n : Nat) (h : n < 256) :
  ((65 ≤ n ∧ n ≤ 90) ∨ (97 ≤ n ∧ n ≤ 122) → 97 ≤ bits BinOp.or IntKind.u8 n 32 ∧ bits BinOp.or IntKind.u8 n 32 ≤ 122) ∧
  ((65 ≤ n ∧ n ≤ 70) ∨ (97 ≤ n ∧ n ≤ 102) → bits BinOp.or IntKind.u8 n 32 ≤ 102) ∧
  ((71 ≤ n ∧ n ≤ 90) ∨ (103 ≤ n ∧ n ≤ 122) → 102 < bits BinOp.or IntKind.u8 n 32) ∧
  (¬ ((65 ≤ n ∧ n ≤ 90) ∨ (97 ≤ n ∧ n ≤ 122)) → bits BinOp.or IntKind.u8 n 32 < 97 ∨ 122 < bits BinOp.or IntKind.u8 n 32) := by
 have := (by decide +kernel : ∀ n : Fin 256, 
  ((65 ≤ n.val ∧ n.val ≤ 90) ∨ (97 ≤ n.val ∧ n.val ≤ 122) → 97 ≤ bits BinOp.or IntKind.u8 n.val 32 ∧ bits BinOp.or IntKind.u8 n.val 32 ≤ 122) ∧
  ((65 ≤ n.val ∧ n.val ≤ 70) ∨ (97 ≤ n.val ∧ n.val ≤ 102) → bits BinOp.or IntKind.u8 n.val 32 ≤ 102) ∧
  ((71 ≤ n.val ∧ n.val ≤ 90) ∨ (103 ≤ n.val ∧ n.val ≤ 122) → 102 < bits BinOp.or IntKind.u8 n.val 32) ∧
  (¬ ((65 ≤ n.val ∧ n.val ≤ 90) ∨ (97 ≤ n.val ∧ n.val ≤ 122)) → bits BinOp.or IntKind.u8 n.val 32 < 97 ∨ 122 < bits BinOp.or IntKind.u8 n.val 32))
 exact this ⟨n, h⟩
set_option maxHeartbeats 400000 in
theorem classN (n : Nat) (hn : n < 256) (w : World) :
  Calls Tryz.prog 92 #[.int .u8 n] w fun e w' => e = .returned (.int .i64 (clsN n)) ∧ w = w' := by
 obtain ⟨o1, o2, o3, o4⟩ := or32 n hn
 have hc : ∀ v, clsN n = v → Calls Tryz.prog 92 #[.int .u8 n] w (fun e w' => e = .returned (.int .i64 v) ∧ w = w') → Calls Tryz.prog 92 #[.int .u8 n] w fun e w' => e = .returned (.int .i64 (clsN n)) ∧ w = w' := fun v hv h => by rw [hv]; exact h
 by_cases h1 : 48 ≤ n ∧ n ≤ 57
 ·refine hc 93 (by simp [clsN, h1]) ?_
  clear hc o1 o2 o3 o4
  go_enter Tryz.func92, Tryz.ntmps92
  go_wp2
  all_goals (go_ret; exact ⟨rfl, rfl⟩)
 by_cases h2 : (65 ≤ n ∧ n ≤ 70) ∨ (97 ≤ n ∧ n ≤ 102)
 ·refine hc 94 (by simp [clsN, h1, h2]) ?_
  have p1 := (o1 (by omega)).1
  have p2 := o2 h2
  clear hc o1 o2 o3 o4
  go_enter Tryz.func92, Tryz.ntmps92
  go_wp2
  all_goals (go_ret; exact ⟨rfl, rfl⟩)
 by_cases h3 : (65 ≤ n ∧ n ≤ 90) ∨ (97 ≤ n ∧ n ≤ 122)
 ·refine hc 90 (by simp [clsN, h1, h2, h3]) ?_
  have p1 := o1 h3
  have p2 := o3 (by omega)
  clear hc o1 o2 o3 o4
  go_enter Tryz.func92, Tryz.ntmps92
  go_wp2
  all_goals (go_ret; exact ⟨rfl, rfl⟩)
 have h4 := o4 h3
 clear o1 o2 o3 o4
 by_cases s : n = 45 ∨ n = 46 ∨ n = 33 ∨ n = 42 ∨ n = 95 ∨ n = 126 ∨ n = 39 ∨ n = 37 ∨ n = 43 ∨ n = 96 ∨ n = 40 ∨ n = 41 ∨ n = 32 ∨ n = 9
 ·rcases s with rfl | rfl | rfl | rfl | rfl | rfl | rfl | rfl | rfl | rfl | rfl | rfl | rfl | rfl
  all_goals
   clear hc h1 h2 h3 h4
   go_enter Tryz.func92, Tryz.ntmps92
   go_wp2
   all_goals (go_ret; exact ⟨by simp [clsN], rfl⟩)
 ·refine hc 0 (by have : clsN n = 0 := by { unfold clsN; simp only [if_neg h1, if_neg h2, if_neg h3]; repeat (rw [if_neg (by omega)]) }; exact this) ?_
  have q1 : ((n : Int) == 45) = false := by simp; omega
  have q2 : ((n : Int) == 46) = false := by simp; omega
  have q3 : ((n : Int) == 33) = false := by simp; omega
  have q4 : ((n : Int) == 42) = false := by simp; omega
  have q5 : ((n : Int) == 95) = false := by simp; omega
  have q6 : ((n : Int) == 126) = false := by simp; omega
  have q7 : ((n : Int) == 39) = false := by simp; omega
  have q8 : ((n : Int) == 37) = false := by simp; omega
  have q9 : ((n : Int) == 43) = false := by simp; omega
  have q10 : ((n : Int) == 96) = false := by simp; omega
  have q11 : ((n : Int) == 40) = false := by simp; omega
  have q12 : ((n : Int) == 41) = false := by simp; omega
  have q13 : ((n : Int) == 32) = false := by simp; omega
  have q14 : ((n : Int) == 9) = false := by simp; omega
  have r1 : n < 48 ∨ 57 < n := by omega
  clear hc s h1 h2 h3
  rcases h4 with h4 | h4 <;> rcases r1 with r1 | r1
  all_goals
   go_enter Tryz.func92, Tryz.ntmps92
   go_wp2
   all_goals (go_ret; exact ⟨rfl, rfl⟩)
theorem class_c (c : UInt8) (w : World) :
  Calls Tryz.prog 92 #[.int .u8 c.toNat] w fun e w' => e = .returned (.int .i64 (cls c)) ∧ w = w' := classN c.toNat c.toNat_lt w
set_option maxHeartbeats 400000 in
theorem has_c (s : ByteArray) (hs : s.size ≤ 9223372036854775807) (c : UInt8) (w : World) :
  Calls Tryz.prog 174 #[.string s, .int .u8 c.toNat] w fun e w' => e = .returned (.bool (hasb (us s) c)) ∧ w = w' := by
 go_enter Tryz.func174, Tryz.ntmps174
 go_wp2
 go_loop [5] (fun i => ∃ k : Nat, k ≤ s.size ∧ i = .int .i64 k ∧ hasb ((us s).drop k) c = hasb (us s) c) (fun i => s.size - (intOf i).toNat)
 case atStart => exact ⟨0, Nat.zero_le _, rfl, rfl⟩
 case round =>
  obtain ⟨k, hk, rfl, hb⟩ := hrel
  have HB := κ hb; clear hb
  by_cases hlt : k < s.size
  ·have hd := κ (drop_us s k hlt)
   go_wp2
   ·go_ret
    rename_i h _
    refine ⟨?_, rfl⟩
    rw [← HB.out, hd.out]; simp at h; simp [hasb]; omega
   ·go_round
    case rel => exact ⟨k + 1, by omega, by go_num, by rename_i h; rw [← HB.out, hd.out]; simp at h; simp [hasb]; omega⟩
    case measure => simp [intOf]; omega
  ·go_wp2
   go_ret
   refine ⟨?_, rfl⟩
   rw [← HB.out, drop_us_end s k (by omega)]; rfl
end
section
open Go.RowKit
theorem cls_vals (c : UInt8) : cls c = 93 ∨ cls c = 94 ∨ cls c = 90 ∨ cls c = 88 ∨ cls c = 24 ∨ cls c = 8 ∨ cls c = 16 ∨ cls c = 32 ∨ cls c = 0 :=
 all_bytes (fun c => cls c = 93 ∨ cls c = 94 ∨ cls c = 90 ∨ cls c = 88 ∨ cls c = 24 ∨ cls c = 8 ∨ cls c = 16 ∨ cls c = 32 ∨ cls c = 0) (by decide +kernel) c
theorem cls_blank (c : UInt8) : cls c = 32 ↔ c.toNat = 32 ∨ c.toNat = 9 :=
 all_bytes (fun c => cls c = 32 ↔ c.toNat = 32 ∨ c.toNat = 9) (by decide +kernel) c
theorem has_v (b : Bool) (s : ByteArray) (hs : s.size ≤ 9223372036854775807) (c : UInt8) (w : World) (h : hasb (us s) c = b) :
  Calls Tryz.prog 174 #[.string s, .int .u8 c.toNat] w fun e w' => e = .returned (.bool b) ∧ w = w' := by
 rw [← h]; exact has_c s hs c w
set_option maxHeartbeats 4000000 in
theorem classR_v (v : Int) (c : UInt8) (hv : cls c = v) (w : World) :
  Calls Tryz.prog 162 #[.int .u8 c.toNat] w fun e w' => e = .returned (.int .i64 v) ∧ w = w' := by
 have HV := κ hv
 rcases cls_vals c with g | g | g | g | g | g | g | g | g <;> rw [g] at hv <;> subst hv
 case inr.inr.inr.inr.inr.inr.inr.inl =>
  have hb := (cls_blank c).1 g
  have HG := κ g
  clear g HV
  rcases hb with hb | hb
  have q : ((c.toNat : Int) == 32) = true := by simp [hb]
  rotate_left
  have q0 : ((c.toNat : Int) == 32) = false := by simp [hb]
  have q : ((c.toNat : Int) == 9) = true := by simp [hb]
  rotate_left
  all_goals
   clear hb
   go_enter Tryz.func162, Tryz.ntmps162
   go_wp2_with (go_at_call 174; refine (has_v false _ (by decide) c _ ?_).mono ?_; (· exact all_bytes (fun c => cls c = 32 → hasb (us _) c = false) (by decide +kernel) c HG.out); rintro e w' ⟨rfl, rfl⟩)
   all_goals (go_ret; exact ⟨rfl, rfl⟩)
 all_goals
  have nb : ¬ (c.toNat = 32 ∨ c.toNat = 9) := by rw [← cls_blank, g]; decide
  have q : ((c.toNat : Int) == 32) = false := by simp; omega
  have q' : ((c.toNat : Int) == 9) = false := by simp; omega
  have HG := κ g
  clear g HV nb
  go_enter Tryz.func162, Tryz.ntmps162
  go_wp2_with (go_at_call 174; first | (refine (has_v true _ (by decide) c _ ?_).mono ?_; (· exact all_bytes (fun c => cls c = _ → hasb (us _) c = true) (by decide +kernel) c HG.out); rintro e w' ⟨rfl, rfl⟩) | (refine (has_v false _ (by decide) c _ ?_).mono ?_; (· exact all_bytes (fun c => cls c = _ → hasb (us _) c = false) (by decide +kernel) c HG.out); rintro e w' ⟨rfl, rfl⟩))
  all_goals (go_ret; exact ⟨rfl, rfl⟩)
theorem classR_c (c : UInt8) (w : World) :
  Calls Tryz.prog 162 #[.int .u8 c.toNat] w fun e w' => e = .returned (.int .i64 (cls c)) ∧ w = w' := classR_v _ c rfl w
end
theorem tkU {P : Program} {ops : Array Oper} {Q : Exit → Act → World → Prop} {md : Region.Mode} {oi : Oper} {fuel : Nat} {listed : Array Bool} {a : Act} {w : World} (i : Nat)
  (h : wpAny P md ops Q fuel (listed.setIfInBounds i true) (a.put oi.dst undef) w) (hi : ops[i]? = some oi := by exact rfl)
  (hs : Region.noSelect ops = true := by kernel_rfl) (hf : Region.free md ops listed i = true := by kernel_rfl) (hr : (Region.ready md ops listed).contains i = true := by kernel_rfl)
  (hQ : ∀ c a w, Q (.panic c) (a.put oi.dst undef) w → Q (.panic c) a w := by exact fun _ _ _ h => h) (hw : Region.wanted oi (yielded ops a.tmps) = false := by rfl) : wpAny P md ops Q (fuel + 1) listed a w :=
 wpAny_take hi hs hf hr hQ (Or.inr ⟨hw, rfl⟩) h
theorem tkV {P : Program} {ops : Array Oper} {Q : Exit → Act → World → Prop} {md : Region.Mode} {oi : Oper} {v : Value} {fuel : Nat} {listed : Array Bool} {a : Act} {w : World} (i : Nat)
  (h : wpAny P md ops Q fuel (listed.setIfInBounds i true) (a.put oi.dst v) w) (hi : ops[i]? = some oi := by exact rfl)
  (hs : Region.noSelect ops = true := by kernel_rfl) (hf : Region.free md ops listed i = true := by kernel_rfl) (hr : (Region.ready md ops listed).contains i = true := by kernel_rfl)
  (hQ : ∀ c a w, Q (.panic c) (a.put oi.dst v) w → Q (.panic c) a w := by exact fun _ _ _ h => h) (hw : Region.wanted oi (yielded ops a.tmps) = true := by rfl)
  (hy : ∀ w, (execOp a.eval oi).run P w = .ok (.value v) w := by (intro _; go_simp; first | done | with_reducible rfl | (rw [if_neg (by omega)]; done) | (rw [if_neg (by omega)]; with_reducible rfl))) : wpAny P md ops Q (fuel + 1) listed a w :=
 wpAny_take hi hs hf hr hQ (Or.inl ⟨hw, hy⟩) h
theorem tkH {P : Program} {ops : Array Oper} {Q : Exit → Act → World → Prop} {S : World → Prop} {md : Region.Mode} {oi : Oper} {v : Value} {fuel : Nat} {listed : Array Bool} {a : Act} {w : World} (i : Nat)
  (h : wpAnyH P md ops Q S fuel (listed.setIfInBounds i true) (a.put oi.dst v) w) (hi : ops[i]? = some oi := by exact rfl)
  (hs : Region.noSelect ops = true := by kernel_rfl) (hf : Region.free md ops listed i = true := by kernel_rfl) (hr : (Region.ready md ops listed).contains i = true := by kernel_rfl)
  (hQ : ∀ c a w, Q (.panic c) (a.put oi.dst v) w → Q (.panic c) a w := by exact fun _ _ _ h => h) (hw : Region.wanted oi (yielded ops a.tmps) = true := by rfl)
  (hy : ∀ w, S w → (execOp a.eval oi).run P w = .ok (.value v) w := by (intro _ hSw; (try dsimp only at hSw); go_simp; try (with_reducible rfl))) (hS : S w := by assumption) : wpAnyH P md ops Q S (fuel + 1) listed a w :=
 wpAnyH_take hi hs hf hr hQ (Or.inl ⟨hw, hy⟩) hS h
theorem rdyH {P : Program} {ops : Array Oper} {Q : Exit → Act → World → Prop} {S : World → Prop} {md : Region.Mode} {o : Oper} {fuel : Nat} {listed : Array Bool} {a : Act} {w : World} (i : Nat)
  (h : ∀ K' : Act → World → Prop, Shut (∀ a w, S w → (S w → wpAnyH P md ops Q S fuel (listed.setIfInBounds i true) a w) → K' a w) → if Region.wanted o (yielded ops a.tmps) = true then Oper.wp P o a w K' Q else K' (a.put o.dst undef) w)
  (ho : ops[i]? = some o := by exact rfl) (hr : Region.ready md ops listed = [i] := by kernel_rfl) : wpAnyH P md ops Q S (fuel + 1) listed a w :=
 wpAnyH_ready hr (by simp) (AllReadyH.cons ho h AllReadyH.nil)
theorem rdyA {P : Program} {ops : Array Oper} {Q : Exit → Act → World → Prop} {md : Region.Mode} {o : Oper} {fuel : Nat} {listed : Array Bool} {a : Act} {w : World} (i : Nat)
  (h : ∀ K' : Act → World → Prop, (∀ a w, wpAny P md ops Q fuel (listed.setIfInBounds i true) a w → K' a w) → if Region.wanted o (yielded ops a.tmps) = true then Oper.wp P o a w K' Q else K' (a.put o.dst undef) w)
  (ho : ops[i]? = some o := by exact rfl) (hr : Region.ready md ops listed = [i] := by kernel_rfl) : wpAny P md ops Q (fuel + 1) listed a w :=
 wpAny_ready hr (by simp) (AllReady.cons ho h AllReady.nil)
theorem agS : (∀ (α : Type) (l : List α) (i : Nat) (h : i < l.toArray.size), l.toArray[i] = l[i]'(by simpa using h)) ∧ (∀ (α : Type) (a : α) (l : List α) (h : 0 < (a :: l).length), (a :: l)[0] = a) ∧ (∀ (α : Type) (a : α) (l : List α) (i : Nat) (h : i + 1 < (a :: l).length), (a :: l)[i + 1] = l[i]'(Nat.lt_of_succ_lt_succ h)) ∧ (∀ (l : List Value) (i : Nat) (v : Value), l.toArray.setIfInBounds i v = (l.set i v).toArray) ∧ (∀ (a : Value) (l : List Value) (v : Value), (a :: l).set 0 v = v :: l) ∧ ∀ (a : Value) (l : List Value) (i : Nat) (v : Value), (a :: l).set (i + 1) v = a :: l.set i v :=
 ⟨fun _ _ _ _ => rfl, fun _ _ _ _ => rfl, fun _ _ _ _ _ => rfl, fun l i v => by simp, fun _ _ _ => rfl, fun _ _ _ _ => rfl⟩
end Go.Proofs.YtipdiddjhimdcaaGreatDoor
