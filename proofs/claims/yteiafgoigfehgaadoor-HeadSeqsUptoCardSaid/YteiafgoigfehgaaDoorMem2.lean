/-
  More laws of the walk for what a call makes itself.
-/
import Derived.Test.YteiafgoigfehgaaDoorMem
import Derived.Deep.RegionLaw
namespace Go.Proofs.YteiafgoigfehgaaDoor
open Go.RowKit

theorem Byt.below {w w' : World} {base B : Nat} {e : TypeId} {v : Value} {l : List UInt8} (h : Byt w base e v l) (hB : Below B w w') (hs : w.heap.size ≤ B) : Byt w' base e v l := by
  refine ⟨h.1, ?_⟩
  rcases h.2 with hn | ⟨g, cap, cur, rfl, hb, hgg, rest⟩
  · exact .inl hn
  · refine .inr ⟨g, cap, cur, rfl, hb, ?_, rest⟩
    have hlt := (Array.getElem?_eq_some_iff.1 hgg).1
    rw [hB.block g (by omega)]; exact hgg

section
variable {P : Program} {ops : Array Oper} {rest : List Oper} {o : Oper} {a : Act} {Q : Exit → Act → World → Prop}
/-- a call that makes memory, as one operation of a region that draws its order -/
theorem step_callB1 {K : Act → World → Prop} {w : World} {E : Prop} {f : FuncId} {x : Operand} {ts : Array TypeId} {v0 v : Value}
    (hg : o.guard = none) (ho : o.op = .call { callee := .value (.func f), args := #[x], argTypes := ts }) {fn : Func} (hf : P.funcs[f]? = some fn) (hnm : (fn.name == "runtime.NumGoroutine") = false) (hbd : fn.body.isNone = false)
    (hx : a.eval x = v0) (hC : Calls P f #[v0] w fun e w' => e = .returned v ∧ Below w.heap.size w w') (hK : ∀ w', Below w.heap.size w w' → K (a.put o.dst v) w') :
    if Region.wanted o (yielded ops a.tmps) = true then Oper.wp P o a w K Q else E := by
  refine step_of hg ?_
  unfold Oper.wp
  have h1 : fn.name ≠ "runtime.NumGoroutine" := by simpa using hnm
  have h2 : fn.body ≠ none := by intro e; rw [e] at hbd; cases hbd
  have hrun : (execOp a.eval o).run P w = .ok (.enter f #[v0]) w := by
    subst hx
    simp [execOp, ho, resolve, Deferred.ofValue, invoke, callFunc, Act.eval, hf, h1, h2, Result.andThen]
  rw [hrun]
  refine hC.mono ?_
  rintro e w' ⟨rfl, hB⟩
  exact hK w' hB
end

end Go.Proofs.YteiafgoigfehgaaDoor
