/-
  Arguments opened: a slice of parameters.
-/
import Derived.Test.YtjpmfcipjaeemaaGreatDoorOpen2
namespace Go.Proofs.YtjpmfcipjaeemaaGreatDoor
open Go.ChangeShapes Go.WideShapes Go.ChangeAt Go.RowKit Go.Deep Go.Joins

section
variable {H : Type} {enc : TypeId × Value → H} {P : Program} {w : World} {base : Nat} {spare : Nat → Bool} {held : Bool}
theorem open_params {t e : TypeId} {v : Value} {d : DataW H} {p : List MemPlace} {r : Reach} {b0 : Nat} {f0 f1 f2 : Field} (ht : P.underlying t = some (.slice e)) (he : P.underlying e = some (.struct #[f0, f1, f2]))
    (hone : oneCellFields P #[f0, f1, f2] = true) (hC : P.cellsOf e = 3) (h0 : P.underlying f0.type = some .string) (h1 : P.underlying f1.type = some .string) (h2 : P.underlying f2.type = some .bool)
    (hv : Value.okWide P w r b0 t v) (h : DataW.Trod enc P w base spare held t v d p) :
    ∃ L, RPrms w v L ∧ (∀ p ∈ L, p.name.length ≤ Rows.uptoBulk d ∧ p.value.length ≤ Rows.uptoBulk d) ∧ L.length ≤ Rows.uptoBulk d := by
  obtain ⟨a0, len0, cap0, rfl⟩ := okWide_slice ht hv
  obtain ⟨fuel, hf⟩ := h
  obtain ⟨L, g1, g2, g3⟩ := open_prms ht he hone hC h0 h1 h2 hf
  dsimp only at g2 g3
  exact ⟨L, g1, fun p hp => by have := g2 p hp; constructor <;> omega, g3⟩
end

end Go.Proofs.YtjpmfcipjaeemaaGreatDoor
