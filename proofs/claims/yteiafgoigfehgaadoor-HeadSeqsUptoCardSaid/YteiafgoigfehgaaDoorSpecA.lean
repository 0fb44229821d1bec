/-
  Plain Lean, no program in sight: what the functions of layer 1 (scan) compute, on lists of bytes.
-/
import Derived.WalkKit
import Derived.Lib.IndexEntry
namespace Go.Proofs.YteiafgoigfehgaaDoor
open Go.RowKit

/-- a string's bytes, and back -/
def us (s : ByteArray) : List UInt8 := s.data.toList
def bs (l : List UInt8) : ByteArray := ⟨l.toArray⟩
@[simp] theorem us_bs (l : List UInt8) : us (bs l) = l := by simp [us, bs]
@[simp] theorem bs_us (s : ByteArray) : bs (us s) = s := by cases s; rfl
@[simp] theorem size_bs (l : List UInt8) : (bs l).size = l.length := by show l.toArray.size = l.length; exact List.size_toArray ..
theorem length_us (s : ByteArray) : (us s).length = s.size := by show s.data.toList.length = s.data.size; exact Array.length_toList
theorem us_inj {a b : ByteArray} (h : us a = us b) : a = b := by have := congrArg bs h; simpa using this
theorem toList_us (s : ByteArray) : s.toList = us s := Lib.toList_data s
theorem toList_nil (s : ByteArray) : s.toList = [] ↔ s.size = 0 := by
  rw [toList_us, ← List.length_eq_zero_iff, length_us]
theorem ba_empty (s : ByteArray) : s = ByteArray.empty ↔ s.size = 0 := by
  constructor
  · intro h; rw [h]; rfl
  · intro h; apply us_inj; rw [List.eq_nil_of_length_eq_zero ((length_us s).trans h)]; rfl
theorem isEmpty_us (s : ByteArray) : s.toList.isEmpty = decide (s.size = 0) := by
  rw [Bool.eq_iff_iff, List.isEmpty_iff, toList_nil, decide_eq_true_iff]
theorem ne_empty {s : ByteArray} (h : s.size ≠ 0) : ¬ s = ByteArray.empty := fun e => h ((ba_empty s).1 e)
theorem isEmpty_f {s : ByteArray} (h : s.size ≠ 0) : s.toList.isEmpty = false := by rw [isEmpty_us]; exact decide_eq_false h
theorem eq_empty {s : ByteArray} (h : s.size = 0) : s = ByteArray.empty := (ba_empty s).2 h
theorem drop_us (s : ByteArray) (k : Nat) (h : k < s.size) : (us s).drop k = s[k] :: (us s).drop (k + 1) := by
  have hk : k < (us s).length := by rw [length_us]; exact h
  rw [List.drop_eq_getElem_cons hk]; rfl
theorem drop_us_end (s : ByteArray) (k : Nat) (h : s.size ≤ k) : (us s).drop k = [] := by
  rw [List.drop_eq_nil_iff, length_us]; exact h
theorem take_us (s : ByteArray) (k : Nat) (h : k < s.size) : (us s).take (k + 1) = (us s).take k ++ [s[k]] := by
  have hk : k < (us s).length := by rw [length_us]; exact h
  rw [List.take_succ_eq_append_getElem hk]; rfl
theorem get_us (s : ByteArray) (k : Nat) (h : k < s.size) : (us s)[k]? = some s[k] := by
  have hk : k < (us s).length := by rw [length_us]; exact h
  rw [List.getElem?_eq_getElem hk]; rfl

theorem all_bytes (P : UInt8 → Prop) (h : ∀ n : Fin 256, P (UInt8.ofNat n.val)) (c : UInt8) : P c := by
  have := h ⟨c.toNat, c.toNat_lt⟩
  simpa using this

/-- the classes of a byte -/
def clsN (n : Nat) : Int :=
  if 48 ≤ n ∧ n ≤ 57 then 93
  else if (65 ≤ n ∧ n ≤ 70) ∨ (97 ≤ n ∧ n ≤ 102) then 94
  else if (65 ≤ n ∧ n ≤ 90) ∨ (97 ≤ n ∧ n ≤ 122) then 90
  else if n = 45 ∨ n = 46 then 88
  else if n = 33 ∨ n = 42 ∨ n = 95 ∨ n = 126 ∨ n = 39 then 24
  else if n = 37 ∨ n = 43 ∨ n = 96 then 8
  else if n = 40 ∨ n = 41 then 16
  else if n = 32 ∨ n = 9 then 32
  else 0
def cls (c : UInt8) : Int := clsN c.toNat
def testc (k : Int) (c : UInt8) : Bool := !(bits BinOp.and IntKind.i64 (cls c) k == 0)
def allc (k : Int) (l : List UInt8) : Bool := l.all (testc k)
def token (l : List UInt8) : Bool := decide (1 ≤ l.length) && decide (l.length ≤ 64) && allc 8 l
def low (c : UInt8) : UInt8 := if 65 ≤ c.toNat ∧ c.toNat ≤ 90 then c + 32 else c
def lowr (l : List UInt8) : List UInt8 := l.map low
def same (a b : List UInt8) : Bool := lowr a == lowr b
def blank (c : UInt8) : Bool := cls c == 32
def trimL (l : List UInt8) : List UInt8 := l.dropWhile blank
def trimR (l : List UInt8) : List UInt8 := (l.reverse.dropWhile blank).reverse
def trim (l : List UInt8) : List UInt8 := trimR (trimL l)
def hasb (l : List UInt8) (c : UInt8) : Bool := l.any fun x => x.toNat == c.toNat

def numGo (most : Int) : List UInt8 → Int → Int × Int
  | [], n => (n, 0)
  | c :: r, n => if most < (c.toNat : Int) - 48 ∨ (most - ((c.toNat : Int) - 48)) / 10 < n then (0, 9) else numGo most r (10 * n + ((c.toNat : Int) - 48))
def number (l : List UInt8) (most : Int) : Int × Int :=
  if l = [] ∨ allc 1 l = false then (0, 10) else numGo most l 0

def dig (n : Nat) : UInt8 := UInt8.ofNat (48 + n)
def digF : Nat → Nat → List UInt8
  | 0, _ => []
  | f + 1, n => if n < 10 then [dig n] else digF f (n / 10) ++ [dig (n % 10)]
def digits (n : Int) : List UInt8 := if n < 0 then [] else digF 20 n.toNat

def bare (c : UInt8) : Bool := c.toNat != 34 && c.toNat != 92 && c.toNat != 127 && (decide (32 ≤ c.toNat) || c.toNat == 9)
def broken (c : UInt8) : Bool := c.toNat == 0 || c.toNat == 10 || c.toNat == 13
def qbyte (c : UInt8) : List UInt8 := if bare c then [c] else [92, c]
def quote (l : List UInt8) : List UInt8 × Int := if l.any broken then ([], 11) else (34 :: (l.flatMap qbyte ++ [34]), 0)
def unqGo : List UInt8 → Option (List UInt8)
  | [] => some []
  | [c] => if bare c then some [c] else none
  | c :: d :: r =>
    if c.toNat = 92 then (if broken d || decide (127 < d.toNat) then none else (unqGo r).map (d :: ·))
    else if bare c then (unqGo (d :: r)).map (c :: ·) else none
/-- what was read, or an error's number -/
def okOr (e : Int) : Option (List UInt8) → List UInt8 × Int
  | some r => (r, 0)
  | none => ([], e)
def unquote (l : List UInt8) : List UInt8 × Int :=
  if l.length < 2 ∨ l.head? ≠ some 34 ∨ l.getLast? ≠ some 34 then ([], 11)
  else okOr 11 (unqGo ((l.drop 1).take (l.length - 2)))

def hexd (n : Nat) : UInt8 := UInt8.ofNat (if n < 10 then 48 + n else 55 + n)
def ebyte (keep : List UInt8) (c : UInt8) : List UInt8 :=
  if c.toNat ≠ 37 ∧ (testc 16 c = true ∨ hasb keep c = true) then [c] else [37, hexd (c.toNat / 16), hexd (c.toNat % 16)]
def escape (l keep : List UInt8) : List UInt8 := l.flatMap (ebyte keep)
def worth (c : UInt8) : Nat := if c.toNat ≤ 57 then c.toNat - 48 else (low c).toNat - 87
def unesc : List UInt8 → Option (List UInt8)
  | [] => some []
  | c :: r =>
    if c.toNat = 37 then
      match r with
      | a :: b :: r' => if testc 4 a && testc 4 b then (unesc r').map (UInt8.ofNat (16 * worth a + worth b) :: ·) else none
      | _ => none
    else (unesc r).map (c :: ·)
def unescape (l : List UInt8) : List UInt8 × Int := okOr 12 (unesc l)

/-- where a text is cut: quoted, between angles, the piece so far -/
def partsGo (sep : UInt8) : Bool → Bool → List UInt8 → List UInt8 → List (List UInt8)
  | _, _, cur, [] => [cur]
  | q, a, cur, c :: r =>
    if q = true ∧ c.toNat = 92 then
      match r with
      | [] => [cur ++ [c]]
      | d :: r' => partsGo sep q a (cur ++ [c, d]) r'
    else if c.toNat = 34 then partsGo sep (!q) a (cur ++ [c]) r
    else if q = true then partsGo sep q a (cur ++ [c]) r
    else if c.toNat = 60 then partsGo sep q true (cur ++ [c]) r
    else if c.toNat = 62 then partsGo sep q false (cur ++ [c]) r
    else if c.toNat = sep.toNat ∧ a = false then cur :: partsGo sep q a [] r
    else partsGo sep q a (cur ++ [c]) r
def parts (l : List UInt8) (sep : UInt8) : List (List UInt8) := partsGo sep false false [] l
def glue (sep : List UInt8) : List (List UInt8) → List UInt8
  | [] => []
  | [x] => x
  | x :: y :: r => x ++ (sep ++ glue sep (y :: r))

end Go.Proofs.YteiafgoigfehgaaDoor
