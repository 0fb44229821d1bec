/-
  A map of counts, over any keys: what it holds after each '++'.
-/
import Derived.Test.YtbljmjbialinkaaDoorCmS
import Derived.Maps.OwnOps
import Derived.Maps.Views
namespace Go.Proofs.YtbljmjbialinkaaDoor
set_option linter.unusedSimpArgs false
set_option linter.unusedVariables false
open Go.RowKit Go.Maps

section
variable {α : Type} [DecidableEq α] {key : α → Lit} {good : α → Prop}
def zI : DataW Unit := .lit (.int .i64 0)
def cntN (L : List α) (a : α) : Nat := L.count a
theorem cntN_le (L : List α) (a : α) : cntN L a ≤ L.length := List.count_le_length
theorem cntN_pos (L : List α) (a : α) : 0 < cntN L a ↔ a ∈ L := List.count_pos_iff
/-- the map holds how often each key stands in a list -/
def CntA (key : α → Lit) (good : α → Prop) (D : DataW Unit) (L : List α) : Prop := IsMap D ∧ ∀ x, good x → D.atKey (key x) zI = .lit (.int .i64 (cntN L x))
theorem cntA_nil : CntA key good (.map []) [] := ⟨isMap_empty, fun _ _ => rfl⟩
theorem cntA_step (hk : ∀ a, good a → WideAt.IsKeyLit (key a)) (inj : ∀ a b, good a → good b → key a = key b → a = b) {D : DataW Unit} {L : List α} (h : CntA key good D L) (a : α) (ha : good a) :
    CntA key good (D.put (key a) (.lit (.int .i64 ((cntN L a : Int) + 1)))) (L ++ [a]) := by
  refine ⟨h.1.put _ _, fun x hx => ?_⟩
  by_cases e : x = a
  · subst e
    rw [atKey_put_same h.1 (hk _ ha)]
    unfold cntN
    rw [List.count_append, List.count_singleton_self]
    simp
  · rw [atKey_put_other (fun he => e (inj x a hx ha he)), h.2 x hx]
    unfold cntN
    rw [List.count_append]
    have : List.count x [a] = 0 := by rw [List.count_eq_zero]; simpa using e
    rw [this]; simp
theorem cntA_put (hk : ∀ a, good a → WideAt.IsKeyLit (key a)) {D : DataW Unit} {L : List α} (h : CntA key good D L) (a : α) (ha : good a) (d : DataW Unit) : (D.put (key a) d).atKey (key a) zI = d := atKey_put_same h.1 (hk _ ha) _ _
theorem cntA_at {D : DataW Unit} {L : List α} (h : CntA key good D L) (a : α) (ha : good a) (c : Int) (hc : D.atKey (key a) (.lit (.int .i64 0)) = .lit (.int .i64 c)) : (cntN L a : Int) = c := by
  have := (h.2 a ha).symm.trans hc
  injection this with this
  injection this
end

end Go.Proofs.YtbljmjbialinkaaDoor
