/-
  A block of memory that is known whole, and what a call keeps of it.
-/
import Derived.Test.YteiafgoigfehgaaDoorPrmD
namespace Go.Proofs.YteiafgoigfehgaaDoor
open Go.RowKit

def Blk (w : World) (g : Nat) (t : TypeId) (cs : Array Value) : Prop := w.heap[g]? = some (.cells cs t (0, 0))
section
variable {w w' : World} {g : Nat} {t : TypeId} {cs : Array Value}
theorem Blk.lt (h : Blk w g t cs) : g < w.heap.size := (Array.getElem?_eq_some_iff.1 h).1
theorem Blk.new (w : World) (t : TypeId) (cs : Array Value) : Blk (w.alloc (.cells cs t)) w.heap.size t cs := heap_alloc_new w _
theorem Blk.below {B : Nat} (h : Blk w g t cs) (hb : Below B w w') (hg : g < B) : Blk w' g t cs := (hb.block g hg).trans h
theorem Blk.call (h : Blk w g t cs) (hb : Below w.heap.size w w') : Blk w' g t cs := h.below hb h.lt
theorem Blk.alloc (h : Blk w g t cs) (o : Obj) : Blk (w.alloc o) g t cs := (Below.heap_alloc w o g h.lt).trans h
theorem Blk.set_ (h : Blk w g t cs) (i : Nat) (u : Value) : Blk (w.setCell ⟨g, i, none⟩ u) g t (cs.setIfInBounds i u) := by
  unfold Blk at h ⊢
  simp [World.setCell, Array.getElem?_modify, h]
theorem Blk.far (h : Blk w g t cs) {p : Addr} (hp : g ≠ p.block) (u : Value) : Blk (w.setCell p u) g t cs := (Below.heap_setCell w p u g hp).trans h
theorem Blk.f2 {a b : Value} (h : Blk w g t #[a, b]) : w.cell? ⟨g, 0, none⟩ = some a ∧ w.cell? ⟨g, 1, none⟩ = some b ∧ w.frozen? ⟨g, 0, none⟩ = false ∧ w.frozen? ⟨g, 1, none⟩ = false ∧ g < w.heap.size :=
  ⟨boxedCell h 0, boxedCell h 1, boxedFree h 0, boxedFree h 1, h.lt⟩
theorem Blk.f3 {a b c : Value} (h : Blk w g t #[a, b, c]) : w.cell? ⟨g, 0, none⟩ = some a ∧ w.cell? ⟨g, 1, none⟩ = some b ∧ w.cell? ⟨g, 2, none⟩ = some c ∧ w.frozen? ⟨g, 0, none⟩ = false ∧ w.frozen? ⟨g, 1, none⟩ = false ∧ w.frozen? ⟨g, 2, none⟩ = false ∧ g < w.heap.size :=
  ⟨boxedCell h 0, boxedCell h 1, boxedCell h 2, boxedFree h 0, boxedFree h 1, boxedFree h 2, h.lt⟩
end
/-- a call behind the laying of a block -/
theorem newCall {w w1 : World} {t : TypeId} {cs : Array Value} (hC : Below (w.alloc (.cells cs t)).heap.size (w.alloc (.cells cs t)) w1) : Blk w1 w.heap.size t cs ∧ Below w.heap.size w w1 ∧ w.heap.size < w1.heap.size := by
  have hs : (w.alloc (.cells cs t)).heap.size = w.heap.size + 1 := World.size_alloc _ _
  rw [hs] at hC
  exact ⟨boxedAt hC, ((Below.refl _ _).alloc (Nat.le_refl _) _).trans (hC.mono (by omega)), by have := hC.size; omega⟩
/-- a call behind a store -/
theorem setCall {w w1 : World} {p : Addr} {x : Value} (hC : Below (w.setCell p x).heap.size (w.setCell p x) w1) {B : Nat} (hp : B ≤ p.block) (hB : B ≤ w.heap.size) : Below B w w1 ∧ w.heap.size ≤ w1.heap.size := by
  have hs : (w.setCell p x).heap.size = w.heap.size := by simp
  rw [hs] at hC
  exact ⟨((Below.refl _ _).setCell hp _).trans (hC.mono hB), hs ▸ hC.size⟩

end Go.Proofs.YteiafgoigfehgaaDoor
