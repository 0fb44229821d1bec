/-
  Parameters (name, value, has) as rows of three cells; rosterref04.Place.
-/
import Derived.Test.YteiafgoigfehgaaDoorCut
namespace Go.Proofs.YteiafgoigfehgaaDoor
open Go.RowKit

structure Prm where
  name : List UInt8
  value : List UInt8
  has : Bool
deriving DecidableEq
def Prm.cells (p : Prm) : List Value := [sv p.name, sv p.value, .bool p.has]
/-- a slice of parameters that reads as L -/
def RPrms (w : World) (v : Value) (L : List Prm) : Prop :=
  ((∃ ao cap, v = .slice ao 0 cap) ∧ L = []) ∨
  ∃ b off cap, v = .slice (some ⟨b, off, none⟩) L.length cap ∧ L.length ≤ cap ∧ cap ≤ maxLen ∧ b < w.heap.size ∧
    ∀ j (hj : j < L.length), w.cell? ⟨b, off + j * 3, none⟩ = some (sv L[j].name) ∧ w.cell? ⟨b, off + j * 3 + 1, none⟩ = some (sv L[j].value) ∧ w.cell? ⟨b, off + j * 3 + 2, none⟩ = some (.bool L[j].has)
theorem RPrms.below {w w' : World} {B : Nat} {v : Value} {L : List Prm} (h : RPrms w v L) (hB : Below B w w') (hs : w.heap.size ≤ B) : RPrms w' v L := by
  rcases h with h | ⟨b, off, cap, h1, h2, h2', h3, h4⟩
  · exact .inl h
  · refine .inr ⟨b, off, cap, h1, h2, h2', Nat.lt_of_lt_of_le h3 hB.size, fun j hj => ?_⟩
    rw [hB.cell (p := ⟨b, off + j * 3, none⟩) (by show b < B; omega), hB.cell (p := ⟨b, off + j * 3 + 1, none⟩) (by show b < B; omega), hB.cell (p := ⟨b, off + j * 3 + 2, none⟩) (by show b < B; omega)]
    exact h4 j hj
theorem RPrms.form {w : World} {v : Value} {L : List Prm} (h : RPrms w v L) : ∃ ao cap, v = .slice ao L.length cap ∧ L.length ≤ maxLen ∧
    (0 < L.length → ∃ b off, ao = some ⟨b, off, none⟩ ∧ b < w.heap.size ∧ ∀ j (hj : j < L.length), w.cell? ⟨b, off + j * 3, none⟩ = some (sv L[j].name) ∧ w.cell? ⟨b, off + j * 3 + 1, none⟩ = some (sv L[j].value) ∧ w.cell? ⟨b, off + j * 3 + 2, none⟩ = some (.bool L[j].has)) := by
  rcases h with ⟨⟨ao, cap, rfl⟩, rfl⟩ | ⟨b, off, cap, rfl, h2, h2', h3, h4⟩
  · exact ⟨ao, cap, rfl, Nat.zero_le _, fun h => by simp at h⟩
  · exact ⟨some ⟨b, off, none⟩, cap, rfl, Nat.le_trans h2 h2', fun _ => ⟨b, off, rfl, h3, h4⟩⟩

/-- the place of the first parameter of a name, from place k on; below 0: there is none -/
def placeGo (name : List UInt8) : List Prm → Nat → Int
  | [], _ => -1
  | p :: r, k => if same p.name name then (k : Int) else placeGo name r (k + 1)
def place (L : List Prm) (name : List UInt8) : Int := placeGo name L 0
theorem place_yes (L : List Prm) (name : List UInt8) (k : Nat) (h : k < L.length) (hp : place L name = placeGo name (L.drop k) k) (hs : same L[k].name name = true) : place L name = (k : Int) := by
  rw [hp, List.drop_eq_getElem_cons h, placeGo, if_pos hs]
theorem place_no (L : List Prm) (name : List UInt8) (k : Nat) (h : k < L.length) (hp : place L name = placeGo name (L.drop k) k) (hs : same L[k].name name = false) : place L name = placeGo name (L.drop (k + 1)) (k + 1) := by
  rw [hp, List.drop_eq_getElem_cons h, placeGo, if_neg (by rw [hs]; decide)]
theorem place_end (L : List Prm) (name : List UInt8) (k : Nat) (h : L.length ≤ k) (hp : place L name = placeGo name (L.drop k) k) : place L name = -1 := by
  rw [hp, List.drop_eq_nil_iff.2 h, placeGo]

end Go.Proofs.YteiafgoigfehgaaDoor
