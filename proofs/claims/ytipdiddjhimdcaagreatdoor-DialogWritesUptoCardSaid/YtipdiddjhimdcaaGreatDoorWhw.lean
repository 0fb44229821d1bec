/- Contracts of Go functions, and plain laws. No condition but those told. -/
import Derived.Test.YtipdiddjhimdcaaGreatDoorR16
import Derived.Laws.IdiomCopy
import Derived.Laws.Cells
import Derived.Laws.Tables
set_option linter.unusedSimpArgs false
set_option linter.unusedVariables false
set_option maxRecDepth 100000
namespace Go.Proofs.YtipdiddjhimdcaaGreatDoor
open Go.RowKit Go.Sort
theorem add_cell (b off j : Nat) : (⟨b, off, none⟩ : Addr).add j = ⟨b, off + j, none⟩ := by unfold Addr.add; split <;> simp_all
def setAll (cs : Array Value) : Nat → List Value → Array Value
 | _, [] => cs
 | i, v :: r => setAll (cs.setIfInBounds i v) (i + 1) r
theorem setAll_size : ∀ (vs : List Value) (cs : Array Value) (i : Nat), (setAll cs i vs).size = cs.size
 | [], _, _ => rfl
 | v :: r, cs, i => by rw [setAll, setAll_size r, Array.size_setIfInBounds]
theorem setCells_far (g : Nat) : ∀ (vs : List Value) (i : Nat) (w : World) (k : Nat), k ≠ g → (w.setCells g i vs).heap[k]? = w.heap[k]?
 | [], _, _, _, _ => rfl
 | v :: r, i, w, k, hk => by rw [World.setCells, setCells_far g r (i + 1) _ k hk, Below.heap_setCell _ _ _ _ hk]
theorem setCells_size (g : Nat) : ∀ (vs : List Value) (i : Nat) (w : World), (w.setCells g i vs).heap.size = w.heap.size
 | [], _, _ => rfl
 | v :: r, i, w => by rw [World.setCells, setCells_size g r, World.size_setCell]
theorem setCells_blk {g : Nat} {t : TypeId} : ∀ (vs : List Value) (i : Nat) (w : World) (cs : Array Value), Blk w g t cs → Blk (w.setCells g i vs) g t (setAll cs i vs)
 | [], _, _, _, h => h
 | v :: r, i, w, cs, h => setCells_blk r (i + 1) _ _ (h.set_ i v)
theorem setCells_below {B g : Nat} (hB : B ≤ g) : ∀ (vs : List Value) (i : Nat) (w w0 : World), Below B w0 w → Below B w0 (w.setCells g i vs)
 | [], _, _, _, h => h
 | v :: r, i, w, w0, h => setCells_below hB r (i + 1) _ _ (h.setCell hB v)
section
variable {P : Program} {ops : Array Oper} {rest : List Oper} {o : Oper} {a : Act} {Q : Exit → Act → World → Prop}
theorem wpList_storeB {w : World} {g off : Nat} {t T : TypeId} {cs vs cs' : Array Value} {p x : Operand}
  (hgd : o.guard = none) (ho : o.op = .store T p x) (hp : a.eval p = .pointer (some ⟨g, off, none⟩)) (hx : a.eval x = .agg vs) (hC : (P.info? T).map (·.size) = some vs.size)
  (hb : Blk w g t cs) (hsz : off + vs.size ≤ cs.size) (h1 : (vs.toList.all fun v => v.oneCell') = true) (hcs : setAll cs off vs.toList = cs')
  (h : ∀ w', Blk w' g t cs' → (∀ k, k ≠ g → w'.heap[k]? = w.heap[k]?) → w'.heap.size = w.heap.size → (∀ B, B ≤ g → Below B w w') → wpList P ops Q rest (a.put o.dst undef) w') :
  wpList P ops Q (o :: rest) a w := by
 obtain ⟨i, hi, his⟩ := Option.map_eq_some_iff.1 hC
 refine wpList_plain hgd fun K hK => ?_
 have hcell : ∀ j, j < vs.toList.length → (w.cell? ⟨g, off + 0 + j, none⟩).isSome = true := by
  intro j hj
  have hj' : off + j < cs.size := by simp at hj; omega
  have : w.cell? ⟨g, off + j, none⟩ = cs[off + j]? := boxedCell hb (off + j)
  rw [Nat.add_zero, this]; simp [hj']
 have hfree : ∀ j, j < vs.toList.length → w.frozen? ⟨g, off + 0 + j, none⟩ = false := fun j _ => boxedFree hb _
 have hrun := run_storeCells_cells (P := P) g off vs.toList 0 w hcell hfree (List.all_eq_true.1 h1)
 have hex : (execOp a.eval o).run P w = .ok .skip (w.setCells g off vs.toList) := by
  simp only [Nat.add_zero] at hrun
  simp [execOp, ho, hp, hx, Instr.storeAt, Instr.sureAddr, storeVar, sizeOf, typeInfo, hi, his, Value.cells, hrun, Result.andThen]
 unfold Oper.wp
 rw [hex]
 exact hK _ _ (h _ (hcs ▸ setCells_blk _ _ _ _ hb) (fun k hk => setCells_far g _ _ _ k hk) (setCells_size g _ _ _) (fun B hB => setCells_below hB _ _ _ _ (Below.refl _ _)))
theorem wpList_loadB {w : World} {g off : Nat} {t T : TypeId} {fs : Array Field} {cs vs : Array Value} {p : Operand}
  (hgd : o.guard = none) (ho : o.op = .load T p) (hp : a.eval p = .pointer (some ⟨g, off, none⟩)) (hA : P.underlying T = some (.struct fs)) (hC : (P.info? T).map (·.size) = some vs.size)
  (hb : Blk w g t cs) (hvs : vs.toList = (cs.toList.drop off).take vs.size)
  (h : wpList P ops Q rest (a.put o.dst (.agg vs)) w) : wpList P ops Q (o :: rest) a w := by
 obtain ⟨i, hi, his⟩ := Option.map_eq_some_iff.1 hC
 refine wpList_plain hgd fun K hK => ?_
 have hcell : ∀ j v, vs.toList[j]? = some v → w.cell? ((⟨g, off, none⟩ : Addr).add j) = some v := by
  intro j v hj
  have hlt : j < vs.size := by have := (List.getElem?_eq_some_iff.1 hj).1; simpa using this
  have e : w.cell? ⟨g, off + j, none⟩ = cs[off + j]? := boxedCell hb (off + j)
  rw [add_cell, e, ← hj, hvs, List.getElem?_take_of_lt hlt, List.getElem?_drop]
  simp
 have hrun := run_loadCells_list (P := P) w ⟨g, off, none⟩ vs.toList hcell
 have hex : (execOp a.eval o).run P w = .ok (.value (.agg vs)) w := by
  simp [execOp, ho, hp, Instr.loadAt, Instr.sureAddr, loadVar, isAgg, run_underlying hA, sizeOf, typeInfo, hi, his, hrun, Result.andThen]
  first | done | (simp at hrun; simp [hrun])
 unfold Oper.wp
 rw [hex]
 exact hK _ _ h
end
theorem whole (vs : Array Value) : vs.toList = (vs.toList.drop 0).take vs.size := by rw [List.drop_zero, List.take_of_length_le (by simp)]
theorem setAll_get : ∀ (l : List Value) (cs : Array Value) (i j : Nat), (setAll cs i l)[j]? = if i ≤ j ∧ j < i + l.length ∧ j < cs.size then l[j - i]? else cs[j]?
 | [], cs, i, j => by rw [setAll, if_neg]; simp; omega
 | v :: r, cs, i, j => by
  rw [setAll, setAll_get r, Array.size_setIfInBounds, Array.getElem?_setIfInBounds]
  by_cases h1 : i = j
  ·subst h1
   rw [if_neg (by omega), if_pos rfl]
   by_cases h2 : i < cs.size
   ·rw [if_pos h2, if_pos (by simp; omega)]; simp
   ·rw [if_neg h2, if_neg (by omega)]; simp; omega
  ·rw [if_neg h1]
   by_cases h2 : i + 1 ≤ j ∧ j < i + 1 + r.length ∧ j < cs.size
   ·rw [if_pos h2, if_pos (by simp; omega), show j - i = (j - (i + 1)) + 1 by omega]; simp
   ·rw [if_neg h2, if_neg (by simp; omega)]
theorem setAll_whole {cs vs : Array Value} (h : cs.size = vs.size) : setAll cs 0 vs.toList = vs := by
 apply Array.ext_getElem?
 intro j
 rw [setAll_get]
 by_cases hj : j < vs.size
 ·rw [if_pos (by simp; omega)]; simp
 ·rw [if_neg (by simp; omega), Array.getElem?_eq_none (by omega), Array.getElem?_eq_none (by omega)]
section
variable {P : Program} {w : World} {g : Nat} {t : TypeId}
theorem loadVar_blk {T : TypeId} {fs : Array Field} {vs : Array Value} (hA : P.underlying T = some (.struct fs)) (hC : (P.info? T).map (·.size) = some vs.size) (hb : Blk w g t vs) :
  (loadVar T ⟨g, 0, none⟩).run P w = .ok (.agg vs) w := by
 obtain ⟨i, hi, his⟩ := Option.map_eq_some_iff.1 hC
 have hcell : ∀ j v, vs.toList[j]? = some v → w.cell? ((⟨g, 0, none⟩ : Addr).add j) = some v := by
  intro j v hj
  have e : w.cell? ⟨g, 0 + j, none⟩ = vs[0 + j]? := boxedCell hb (0 + j)
  rw [add_cell, e, ← hj]
  simp
 have hrun := run_loadCells_list (P := P) w ⟨g, 0, none⟩ vs.toList hcell
 simp at hrun
 simp [loadVar, isAgg, run_underlying hA, sizeOf, typeInfo, hi, his, hrun, Result.andThen]
theorem results_ct {fn : Func} {a b : Tmp} {T : TypeId} {tmps : Array Value} {fs : Array Field} {vs : Array Value} {x : Value} (h : fn.results = #[.cell a T, .tmp b]) (hp : tmps.getD a undef = .pointer (some ⟨g, 0, none⟩)) (hx : tmps.getD b undef = x)
  (hA : P.underlying T = some (.struct fs)) (hC : (P.info? T).map (·.size) = some vs.size) (hb : Blk w g t vs) : (results fn tmps).run P w = .ok (.tuple #[.agg vs, x]) w := by
 have hl := loadVar_blk hA hC hb
 rw [Array.getD_eq_getD_getElem?] at hp hx
 simp [results, h, hp, hx, asAddr, hl, Result.andThen]
theorem results_c {fn : Func} {a : Tmp} {T : TypeId} {tmps : Array Value} {fs : Array Field} {vs : Array Value} (h : fn.results = #[.cell a T]) (hp : tmps.getD a undef = .pointer (some ⟨g, 0, none⟩))
  (hA : P.underlying T = some (.struct fs)) (hC : (P.info? T).map (·.size) = some vs.size) (hb : Blk w g t vs) : (results fn tmps).run P w = .ok (.agg vs) w := by
 have hl := loadVar_blk hA hC hb
 rw [Array.getD_eq_getD_getElem?] at hp
 simp [results, h, hp, asAddr, hl, Result.andThen]
end
theorem alloc_setRow (w : World) (cs vs : Array Value) (t : TypeId) : (w.alloc (.cells cs t)).setRow w.heap.size vs = w.alloc (.cells vs t) := by
 unfold World.setRow World.alloc
 congr 1
 apply Array.ext_getElem?
 intro j
 simp only [Array.getElem?_modify, Array.getElem?_push]
 by_cases hj : w.heap.size = j
 ·subst hj; simp
 ·simp [hj]; try (split <;> first | rfl | (exfalso; omega))
section
variable {P : Program} {ops : Array Oper} {rest : List Oper} {o : Oper} {a : Act} {Q : Exit → Act → World → Prop} {w : World} {t : TypeId}
def Hold (p : Prop) : Prop := p
theorem holdStore (T : TypeId) {p x : Operand} (ho : o.op = .store T p x) (h : Hold (wpList P ops Q (o :: rest) a w)) : wpList P ops Q (o :: rest) a w := h
theorem holdLoad (T : TypeId) {p : Operand} (ho : o.op = .load T p) (h : Hold (wpList P ops Q (o :: rest) a w)) : wpList P ops Q (o :: rest) a w := h
theorem wpList_storeNew {cs vs : Array Value} {T : TypeId} {p x : Operand} (hgd : o.guard = none) (ho : o.op = .store T p x) (hp : a.eval p = .pointer (some ⟨w.heap.size, 0, none⟩)) (hx : a.eval x = .agg vs)
  (hC : (P.info? T).map (·.size) = some vs.size) (hold : cs.size = vs.size) (h1 : (vs.toList.all fun v => v.oneCell') = true)
  (h : wpList P ops Q rest (a.put o.dst undef) (w.alloc (.cells vs t))) : wpList P ops Q (o :: rest) a (w.alloc (.cells cs t)) := by
 refine wpList_store_row hgd T p x ho w.heap.size vs hp hx t cs (heap_alloc_new w _) hC hold (by rw [← h1]; simp) ?_
 rw [alloc_setRow]
 exact h
theorem setRow_far (w : World) (g : Nat) (vs : Array Value) (k : Nat) (hk : k ≠ g) : (w.setRow g vs).heap[k]? = w.heap[k]? := by
 unfold World.setRow
 simp [Array.getElem?_modify, Ne.symm hk]
theorem setRow_size (w : World) (g : Nat) (vs : Array Value) : (w.setRow g vs).heap.size = w.heap.size := by
 unfold World.setRow; simp
theorem Below.setRow {B : Nat} {w0 : World} (h : Below B w0 w) {g : Nat} (hg : B ≤ g) (vs : Array Value) : Below B w0 (w.setRow g vs) :=
 ⟨h.os, h.tape, h.output, by rw [setRow_size]; exact h.size, fun k hk => (setRow_far w g vs k (by omega)).trans (h.block k hk)⟩
theorem Blk.row {g : Nat} {cs : Array Value} (h : Blk w g t cs) (vs : Array Value) : Blk (w.setRow g vs) g t vs := setRow_heap w g cs vs t (0, 0) h
end
end Go.Proofs.YtipdiddjhimdcaaGreatDoor
