/-
  Parameters (name, value, has) as rows of three cells; rosterref04.Place.
  rosterref04.Place.
  rosterref04.Value.
  same.find, same.Value.
  A block of memory that is known whole, and what a call keeps of it.
  rosterref03.Lists.
-/
import Derived.Test.YtbljmjbialinkaaDoorUri
import Derived.Laws.StructEq
namespace Go.Proofs.YtbljmjbialinkaaDoor

section
open Go.RowKit

structure Prm where
  name : List UInt8
  value : List UInt8
  has : Bool
deriving DecidableEq
def Prm.cells (p : Prm) : List Value := [sv p.name, sv p.value, .bool p.has]
/-- a slice of parameters that reads as L -/
def RPrms (w : World) (v : Value) (L : List Prm) : Prop :=
  ((∃ ao cap, v = .slice ao 0 cap) ∧ L = []) ∨
  ∃ b off cap, v = .slice (some ⟨b, off, none⟩) L.length cap ∧ L.length ≤ cap ∧ cap ≤ maxLen ∧ b < w.heap.size ∧
    ∀ j (hj : j < L.length), w.cell? ⟨b, off + j * 3, none⟩ = some (sv L[j].name) ∧ w.cell? ⟨b, off + j * 3 + 1, none⟩ = some (sv L[j].value) ∧ w.cell? ⟨b, off + j * 3 + 2, none⟩ = some (.bool L[j].has)
theorem RPrms.below {w w' : World} {B : Nat} {v : Value} {L : List Prm} (h : RPrms w v L) (hB : Below B w w') (hs : w.heap.size ≤ B) : RPrms w' v L := by
  rcases h with h | ⟨b, off, cap, h1, h2, h2', h3, h4⟩
  · exact .inl h
  · refine .inr ⟨b, off, cap, h1, h2, h2', Nat.lt_of_lt_of_le h3 hB.size, fun j hj => ?_⟩
    rw [hB.cell (p := ⟨b, off + j * 3, none⟩) (by show b < B; omega), hB.cell (p := ⟨b, off + j * 3 + 1, none⟩) (by show b < B; omega), hB.cell (p := ⟨b, off + j * 3 + 2, none⟩) (by show b < B; omega)]
    exact h4 j hj
theorem RPrms.form {w : World} {v : Value} {L : List Prm} (h : RPrms w v L) : ∃ ao cap, v = .slice ao L.length cap ∧ L.length ≤ maxLen ∧
    (0 < L.length → ∃ b off, ao = some ⟨b, off, none⟩ ∧ b < w.heap.size ∧ ∀ j (hj : j < L.length), w.cell? ⟨b, off + j * 3, none⟩ = some (sv L[j].name) ∧ w.cell? ⟨b, off + j * 3 + 1, none⟩ = some (sv L[j].value) ∧ w.cell? ⟨b, off + j * 3 + 2, none⟩ = some (.bool L[j].has)) := by
  rcases h with ⟨⟨ao, cap, rfl⟩, rfl⟩ | ⟨b, off, cap, rfl, h2, h2', h3, h4⟩
  · exact ⟨ao, cap, rfl, Nat.zero_le _, fun h => by simp at h⟩
  · exact ⟨some ⟨b, off, none⟩, cap, rfl, Nat.le_trans h2 h2', fun _ => ⟨b, off, rfl, h3, h4⟩⟩

/-- the place of the first parameter of a name, from place k on; below 0: there is none -/
def placeGo (name : List UInt8) : List Prm → Nat → Int
  | [], _ => -1
  | p :: r, k => if same p.name name then (k : Int) else placeGo name r (k + 1)
def place (L : List Prm) (name : List UInt8) : Int := placeGo name L 0
theorem place_yes (L : List Prm) (name : List UInt8) (k : Nat) (h : k < L.length) (hp : place L name = placeGo name (L.drop k) k) (hs : same L[k].name name = true) : place L name = (k : Int) := by
  rw [hp, List.drop_eq_getElem_cons h, placeGo, if_pos hs]
theorem place_no (L : List Prm) (name : List UInt8) (k : Nat) (h : k < L.length) (hp : place L name = placeGo name (L.drop k) k) (hs : same L[k].name name = false) : place L name = placeGo name (L.drop (k + 1)) (k + 1) := by
  rw [hp, List.drop_eq_getElem_cons h, placeGo, if_neg (by rw [hs]; decide)]
theorem place_end (L : List Prm) (name : List UInt8) (k : Nat) (h : L.length ≤ k) (hp : place L name = placeGo name (L.drop k) k) : place L name = -1 := by
  rw [hp, List.drop_eq_nil_iff.2 h, placeGo]
end

section
open Go.RowKit

end

section
open Go.RowKit

/-- a parameter's value, and whether there is such a parameter -/
def valueGo (name : List UInt8) : List Prm → List UInt8 × Bool
  | [] => ([], false)
  | p :: r => if same p.name name then (p.value, true) else valueGo name r
def value (L : List Prm) (name : List UInt8) : List UInt8 × Bool := valueGo name L
theorem place_value (name : List UInt8) : ∀ (L : List Prm) (k : Nat),
    (placeGo name L k = -1 ∧ valueGo name L = ([], false)) ∨ (∃ j, ∃ h : j < L.length, placeGo name L k = ((k + j : Nat) : Int) ∧ valueGo name L = (L[j].value, true))
  | [], k => .inl ⟨rfl, rfl⟩
  | p :: r, k => by
    by_cases h : same p.name name = true
    · exact .inr ⟨0, by simp, by rw [placeGo, if_pos h]; simp, by rw [valueGo, if_pos h]; rfl⟩
    · rcases place_value name r (k + 1) with ⟨h1, h2⟩ | ⟨j, hj, h1, h2⟩
      · exact .inl ⟨by rw [placeGo, if_neg h, h1], by rw [valueGo, if_neg h, h2]⟩
      · refine .inr ⟨j + 1, by simp; omega, ?_, ?_⟩
        · rw [placeGo, if_neg h, h1]; congr 1; omega
        · rw [valueGo, if_neg h, h2]; simp

end

section
open Go.RowKit

/-- the first parameter of a name; else the empty one -/
def findGo (name : List UInt8) : List Prm → Prm × Bool
  | [] => (⟨[], [], false⟩, false)
  | p :: r => if same p.name name then (p, true) else findGo name r
theorem find_value (name : List UInt8) : ∀ (L : List Prm), valueGo name L = ((findGo name L).1.value, (findGo name L).2)
  | [] => rfl
  | p :: r => by
    by_cases h : same p.name name = true
    · rw [valueGo, findGo, if_pos h, if_pos h]
    · rw [valueGo, findGo, if_neg h, if_neg h]; exact find_value name r
theorem find_yes (L : List Prm) (name : List UInt8) (k : Nat) (h : k < L.length) (hp : findGo name L = findGo name (L.drop k)) (hs : same L[k].name name = true) : findGo name L = (L[k], true) := by
  rw [hp, List.drop_eq_getElem_cons h, findGo, if_pos hs]
theorem find_no (L : List Prm) (name : List UInt8) (k : Nat) (h : k < L.length) (hp : findGo name L = findGo name (L.drop k)) (hs : same L[k].name name = false) : findGo name L = findGo name (L.drop (k + 1)) := by
  rw [hp, List.drop_eq_getElem_cons h, findGo, if_neg (by rw [hs]; decide)]
theorem find_end (L : List Prm) (name : List UInt8) (k : Nat) (h : L.length ≤ k) (hp : findGo name L = findGo name (L.drop k)) : findGo name L = (⟨[], [], false⟩, false) := by
  rw [hp, List.drop_eq_nil_iff.2 h, findGo]

def pv (p : Prm) : Value := .agg #[sv p.name, sv p.value, .bool p.has]
/-- a block that a call laid, later on -/
theorem boxedAt {w wr : World} {cs : Array Value} {t : TypeId} (hB : Below (w.heap.size + 1) (w.alloc (.cells cs t)) wr) : wr.heap[w.heap.size]? = some (.cells cs t (0, 0)) :=
  (hB.block w.heap.size (by omega)).trans (heap_alloc_new w _)
theorem boxedCell {w : World} {g : Nat} {cs : Array Value} {t : TypeId} (h : w.heap[g]? = some (.cells cs t (0, 0))) (i : Nat) : w.cell? ⟨g, i, none⟩ = cs[i]? := cell_of_row w g i cs t (0, 0) h
theorem boxedFree {w : World} {g : Nat} {cs : Array Value} {t : TypeId} (h : w.heap[g]? = some (.cells cs t (0, 0))) (i : Nat) : w.frozen? ⟨g, i, none⟩ = false := by simp [World.frozen?, h]
theorem boxed {w wr : World} {a b c : Value} {t : TypeId} (hB : Below (w.heap.size + 1) (w.alloc (.cells #[a, b, c] t)) wr) :
    wr.cell? ⟨w.heap.size, 0, none⟩ = some a ∧ wr.cell? ⟨w.heap.size, 1, none⟩ = some b ∧ wr.cell? ⟨w.heap.size, 2, none⟩ = some c ∧
    wr.frozen? ⟨w.heap.size, 0, none⟩ = false ∧ wr.frozen? ⟨w.heap.size, 1, none⟩ = false ∧ wr.frozen? ⟨w.heap.size, 2, none⟩ = false :=
  have h := boxedAt hB
  ⟨boxedCell h 0, boxedCell h 1, boxedCell h 2, boxedFree h 0, boxedFree h 1, boxedFree h 2⟩
end

section
open Go.RowKit

def Blk (w : World) (g : Nat) (t : TypeId) (cs : Array Value) : Prop := w.heap[g]? = some (.cells cs t (0, 0))
section
variable {w w' : World} {g : Nat} {t : TypeId} {cs : Array Value}
theorem Blk.lt (h : Blk w g t cs) : g < w.heap.size := (Array.getElem?_eq_some_iff.1 h).1
theorem Blk.new (w : World) (t : TypeId) (cs : Array Value) : Blk (w.alloc (.cells cs t)) w.heap.size t cs := heap_alloc_new w _
theorem Blk.below {B : Nat} (h : Blk w g t cs) (hb : Below B w w') (hg : g < B) : Blk w' g t cs := (hb.block g hg).trans h
theorem Blk.call (h : Blk w g t cs) (hb : Below w.heap.size w w') : Blk w' g t cs := h.below hb h.lt
theorem Blk.alloc (h : Blk w g t cs) (o : Obj) : Blk (w.alloc o) g t cs := (Below.heap_alloc w o g h.lt).trans h
theorem Blk.set_ (h : Blk w g t cs) (i : Nat) (u : Value) : Blk (w.setCell ⟨g, i, none⟩ u) g t (cs.setIfInBounds i u) := by
  unfold Blk at h ⊢
  simp [World.setCell, Array.getElem?_modify, h]
theorem Blk.far (h : Blk w g t cs) {p : Addr} (hp : g ≠ p.block) (u : Value) : Blk (w.setCell p u) g t cs := (Below.heap_setCell w p u g hp).trans h
theorem Blk.f2 {a b : Value} (h : Blk w g t #[a, b]) : w.cell? ⟨g, 0, none⟩ = some a ∧ w.cell? ⟨g, 1, none⟩ = some b ∧ w.frozen? ⟨g, 0, none⟩ = false ∧ w.frozen? ⟨g, 1, none⟩ = false ∧ g < w.heap.size :=
  ⟨boxedCell h 0, boxedCell h 1, boxedFree h 0, boxedFree h 1, h.lt⟩
theorem Blk.f3 {a b c : Value} (h : Blk w g t #[a, b, c]) : w.cell? ⟨g, 0, none⟩ = some a ∧ w.cell? ⟨g, 1, none⟩ = some b ∧ w.cell? ⟨g, 2, none⟩ = some c ∧ w.frozen? ⟨g, 0, none⟩ = false ∧ w.frozen? ⟨g, 1, none⟩ = false ∧ w.frozen? ⟨g, 2, none⟩ = false ∧ g < w.heap.size :=
  ⟨boxedCell h 0, boxedCell h 1, boxedCell h 2, boxedFree h 0, boxedFree h 1, boxedFree h 2, h.lt⟩
end
/-- a call behind the laying of a block -/
theorem newCall {w w1 : World} {t : TypeId} {cs : Array Value} (hC : Below (w.alloc (.cells cs t)).heap.size (w.alloc (.cells cs t)) w1) : Blk w1 w.heap.size t cs ∧ Below w.heap.size w w1 ∧ w.heap.size < w1.heap.size := by
  have hs : (w.alloc (.cells cs t)).heap.size = w.heap.size + 1 := World.size_alloc _ _
  rw [hs] at hC
  exact ⟨boxedAt hC, ((Below.refl _ _).alloc (Nat.le_refl _) _).trans (hC.mono (by omega)), by have := hC.size; omega⟩
/-- a call behind a store -/
theorem setCall {w w1 : World} {p : Addr} {x : Value} (hC : Below (w.setCell p x).heap.size (w.setCell p x) w1) {B : Nat} (hp : B ≤ p.block) (hB : B ≤ w.heap.size) : Below B w w1 ∧ w.heap.size ≤ w1.heap.size := by
  have hs : (w.setCell p x).heap.size = w.heap.size := by simp
  rw [hs] at hC
  exact ⟨((Below.refl _ _).setCell hp _).trans (hC.mono hB), hs ▸ hC.size⟩
end

section
open Go.RowKit

theorem prms_drop (L M : List Prm) (k : Nat) (h1 : k < L.length) (h2 : k < M.length) : (L.drop k == M.drop k) = ((L[k] == M[k]) && (L.drop (k + 1) == M.drop (k + 1))) := by
  rw [List.drop_eq_getElem_cons h1, List.drop_eq_getElem_cons h2]; rfl

theorem prm_eq (p q : Prm) : (p == q) = (((bs p.name).toList == (bs q.name).toList) && ((bs p.value).toList == (bs q.value).toList) && (p.has == q.has)) := by
  simp only [toList_us, us_bs]
  obtain ⟨a, b, c⟩ := p
  obtain ⟨a', b', c'⟩ := q
  rw [Bool.eq_iff_iff]
  simp [and_assoc]

end

end Go.Proofs.YtbljmjbialinkaaDoor
