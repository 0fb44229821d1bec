/-
  The text of parameters, in plain words; addr.Text.
  rosterref05.Text.
-/
import Derived.Test.YtbljmjbialinkaaDoorFld
import Derived.Deep.RegionLaw
namespace Go.Proofs.YtbljmjbialinkaaDoor

section
open Go.RowKit

/-- the text of a parameter -/
def ptext (p : Prm) : List UInt8 := 59 :: (p.name ++ (if p.has = true then 61 :: (if wordS p.value = true then p.value else (quote p.value).1) else []))
def textGo : List Prm → List Prm → Option (List UInt8)
  | _, [] => some []
  | done, p :: r => if mayS done p = true then (textGo (done ++ [p]) r).map (ptext p ++ ·) else none
/-- the text of some parameters -/
def textS (L : List Prm) : List UInt8 × Int := if 16 < L.length then ([], 4) else okOr 34 (textGo [] L)
theorem text_step (L : List Prm) (k : Nat) (h : k < L.length) (acc : List UInt8) (hp : textGo [] L = (textGo (L.take k) (L.drop k)).map (acc ++ ·)) (hm : mayS (L.take k) L[k] = true) :
    textGo [] L = (textGo (L.take (k + 1)) (L.drop (k + 1))).map ((acc ++ ptext L[k]) ++ ·) := by
  rw [hp, List.drop_eq_getElem_cons h, textGo, if_pos hm, ← List.take_succ_eq_append_getElem h]
  cases textGo (L.take (k + 1)) (L.drop (k + 1)) <;> simp
theorem text_bad (L : List Prm) (k : Nat) (h : k < L.length) (h16 : L.length ≤ 16) (acc : List UInt8) (hp : textGo [] L = (textGo (L.take k) (L.drop k)).map (acc ++ ·)) (hm : mayS (L.take k) L[k] = false) :
    textS L = ([], 34) := by
  unfold textS
  rw [if_neg (by omega), hp, List.drop_eq_getElem_cons h, textGo, if_neg (by rw [hm]; decide)]; rfl
theorem text_end (L : List Prm) (h16 : L.length ≤ 16) (acc : List UInt8) (hp : textGo [] L = (textGo (L.take L.length) (L.drop L.length)).map (acc ++ ·)) : textS L = (acc, 0) := by
  unfold textS
  rw [if_neg (by omega), hp, List.drop_length, textGo]; simp [okOr]
theorem quote_le (l : List UInt8) : (quote l).1.length ≤ 2 * l.length + 2 := by
  unfold quote
  split
  · simp
  · have : ∀ l : List UInt8, (l.flatMap qbyte).length ≤ 2 * l.length := by
      intro l
      induction l with
      | nil => simp
      | cons c r ih => rw [List.flatMap_cons, List.length_append, List.length_cons]; have := qbyte_len c; omega
    have := this l
    rw [List.length_cons, List.length_append]; simp only [List.length_cons, List.length_nil]; omega
theorem ptext_le (p : Prm) (h1 : p.name.length ≤ 64) (h2 : p.value.length ≤ 64) : (ptext p).length ≤ 200 := by
  unfold ptext
  have := quote_le p.value
  split
  · split <;> simp <;> omega
  · simp; omega
theorem RPrms.take {w : World} {ao : Option Addr} {n cap k : Nat} {L : List Prm} (h : RPrms w (.slice ao n cap) L) (hk : k ≤ L.length) : RPrms w (.slice ao k cap) (L.take k) := by
  have hlen : (L.take k).length = k := by rw [List.length_take]; omega
  rcases h with ⟨_, rfl⟩ | ⟨b, off, cap', h1, h2, h2', h3, h4⟩
  · have : k = 0 := by simpa using hk
    subst this
    exact .inl ⟨⟨_, _, rfl⟩, rfl⟩
  · injection h1 with e1 e2 e3
    subst e1 e3
    refine .inr ⟨b, off, cap, by rw [hlen], by rw [hlen]; omega, h2', h3, fun j hj => ?_⟩
    have hj' : j < L.length := by rw [hlen] at hj; omega
    have := h4 j hj'
    rw [List.getElem_take]; exact this
theorem RPrms.len {w : World} {ao : Option Addr} {n cap : Nat} {L : List Prm} (h : RPrms w (.slice ao n cap) L) (h0 : 0 < L.length) : n = L.length ∧ L.length ≤ cap := by
  rcases h with ⟨_, rfl⟩ | ⟨b, off, cap', h1, h2, _⟩
  · simp at h0
  · injection h1 with _ e2 e3
    subst e3
    exact ⟨e2, h2⟩

section
variable {P : Program} {ops : Array Oper} {o : Oper} {a : Act} {Q : Exit → Act → World → Prop}
/-- a call of two arguments that makes memory, as one operation of a region that draws its order -/
theorem step_callB2 {K : Act → World → Prop} {w : World} {E : Prop} {f : FuncId} {x y : Operand} {ts : Array TypeId} {v0 v1 v : Value}
    (hg : o.guard = none) (ho : o.op = .call { callee := .value (.func f), args := #[x, y], argTypes := ts }) {fn : Func} (hf : P.funcs[f]? = some fn) (hnm : (fn.name == "runtime.NumGoroutine") = false) (hbd : fn.body.isNone = false)
    (hx : a.eval x = v0) (hy : a.eval y = v1) (hC : Calls P f #[v0, v1] w fun e w' => e = .returned v ∧ Below w.heap.size w w') (hK : ∀ w', Below w.heap.size w w' → K (a.put o.dst v) w') :
    if Region.wanted o (yielded ops a.tmps) = true then Oper.wp P o a w K Q else E := by
  refine step_of hg ?_
  unfold Oper.wp
  have h1 : fn.name ≠ "runtime.NumGoroutine" := by simpa using hnm
  have h2 : fn.body ≠ none := by intro e; rw [e] at hbd; cases hbd
  have hrun : (execOp a.eval o).run P w = .ok (.enter f #[v0, v1]) w := by
    subst hx hy
    simp [execOp, ho, resolve, Deferred.ofValue, invoke, callFunc, Act.eval, hf, h1, h2, Result.andThen]
  rw [hrun]
  refine hC.mono ?_
  rintro e w' ⟨rfl, hB⟩
  exact hK w' hB
end
end

section
open Go.RowKit

end

end Go.Proofs.YtbljmjbialinkaaDoor
