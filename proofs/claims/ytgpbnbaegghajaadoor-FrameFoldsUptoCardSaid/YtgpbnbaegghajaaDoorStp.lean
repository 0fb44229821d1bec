/-
  Steps of the laws of chapter 6: calls in regions that draw their order.
-/
import Derived.Test.YtgpbnbaegghajaaDoorHdr
namespace Go.Proofs.YtgpbnbaegghajaaDoor
open Go.RowKit

section
variable {P : Program} {ops : Array Oper} {o : Oper} {a : Act} {Q : Exit → Act → World → Prop}
/-- a call of two arguments that hands back some value, as an operation of a region that draws its order -/
theorem step_wX2 {K : Act → World → Prop} {w : World} {E : Prop} {R : Value → World → Prop} {f : FuncId} {x y : Operand} {ts : Array TypeId} {v0 v1 : Value}
    (hw : Region.wanted o (yielded ops a.tmps) = true) (ho : o.op = .call { callee := .value (.func f), args := #[x, y], argTypes := ts }) {fn : Func} (hf : P.funcs[f]? = some fn) (hnm : (fn.name == "runtime.NumGoroutine") = false) (hbd : fn.body.isNone = false)
    (hx : a.eval x = v0) (hy : a.eval y = v1) (hC : Calls P f #[v0, v1] w fun e w' => ∃ v, e = .returned v ∧ R v w') (hK : ∀ v w', R v w' → K (a.put o.dst v) w') :
    if Region.wanted o (yielded ops a.tmps) = true then Oper.wp P o a w K Q else E := by
  rw [if_pos hw]
  unfold Oper.wp
  have h1 : fn.name ≠ "runtime.NumGoroutine" := by simpa using hnm
  have h2 : fn.body ≠ none := by intro e; rw [e] at hbd; cases hbd
  have hrun : (execOp a.eval o).run P w = .ok (.enter f #[v0, v1]) w := by
    subst hx hy
    simp [execOp, ho, resolve, Deferred.ofValue, invoke, callFunc, Act.eval, hf, h1, h2, Result.andThen]
  rw [hrun]
  refine hC.mono ?_
  rintro e w' ⟨v, rfl, hR⟩
  exact hK v w' hR
/-- a call of no argument -/
theorem step_wB0 {K : Act → World → Prop} {w : World} {E : Prop} {f : FuncId} {ts : Array TypeId} {v : Value}
    (hw : Region.wanted o (yielded ops a.tmps) = true) (ho : o.op = .call { callee := .value (.func f), args := #[], argTypes := ts }) {fn : Func} (hf : P.funcs[f]? = some fn) (hnm : (fn.name == "runtime.NumGoroutine") = false) (hbd : fn.body.isNone = false)
    (hC : Calls P f #[] w fun e w' => e = .returned v ∧ Below w.heap.size w w') (hK : ∀ w', Below w.heap.size w w' → K (a.put o.dst v) w') :
    if Region.wanted o (yielded ops a.tmps) = true then Oper.wp P o a w K Q else E := by
  rw [if_pos hw]
  unfold Oper.wp
  have h1 : fn.name ≠ "runtime.NumGoroutine" := by simpa using hnm
  have h2 : fn.body ≠ none := by intro e; rw [e] at hbd; cases hbd
  have hrun : (execOp a.eval o).run P w = .ok (.enter f #[]) w := by
    simp [execOp, ho, resolve, Deferred.ofValue, invoke, callFunc, Act.eval, hf, h1, h2, Result.andThen]
  rw [hrun]
  refine hC.mono ?_
  rintro e w' ⟨rfl, hR⟩
  exact hK w' hR
end
theorem nmAl : (Tryd.f17.name == "runtime.NumGoroutine") = false := by kernel_rfl
theorem bdAl : Tryd.f17.body.isNone = false := by kernel_rfl
theorem nmAlR : (Tryd.f18.name == "runtime.NumGoroutine") = false := by kernel_rfl
theorem bdAlR : Tryd.f18.body.isNone = false := by kernel_rfl
theorem nmTx : (Tryd.f16.name == "runtime.NumGoroutine") = false := by kernel_rfl
theorem bdTx : Tryd.f16.body.isNone = false := by kernel_rfl
theorem nmAw : (Tryd.f12.name == "runtime.NumGoroutine") = false := by kernel_rfl
theorem bdAw : Tryd.f12.body.isNone = false := by kernel_rfl

end Go.Proofs.YtgpbnbaegghajaaDoor
