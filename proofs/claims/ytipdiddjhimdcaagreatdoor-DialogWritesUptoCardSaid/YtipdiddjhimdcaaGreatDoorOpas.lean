/- Contracts of Go functions, and plain laws. No condition but those told. -/
import Derived.Test.YtipdiddjhimdcaaGreatDoorOpen2
set_option linter.unusedSimpArgs false
set_option linter.unusedVariables false
set_option maxRecDepth 100000
namespace Go.Proofs.YtipdiddjhimdcaaGreatDoor
open Go.ChangeShapes Go.WideShapes Go.ChangeAt Go.RowKit Go.Deep Go.Joins
theorem i64_of_wfA {n : Int} (h : (Lit.int .i64 n).wf = true) : -9223372036854775808 ≤ n ∧ n ≤ 9223372036854775807 := by
 simp [Lit.wf, IntKind.min, IntKind.max, IntKind.signed, IntKind.bits] at h; omega
def AdrBd (B : Nat) (a : Adr) : Prop :=
 (a.disp.length ≤ B ∧ a.uri.scheme.length ≤ B ∧ a.uri.user.length ≤ B ∧ a.uri.host.length ≤ B) ∧ (-9223372036854775808 ≤ a.uri.port ∧ a.uri.port ≤ 9223372036854775807) ∧
 (∀ p ∈ a.uri.ps, p.name.length ≤ B ∧ p.value.length ≤ B) ∧ (∀ p ∈ a.uri.hs, p.name.length ≤ B ∧ p.value.length ≤ B) ∧ (∀ p ∈ a.ps, p.name.length ≤ B ∧ p.value.length ≤ B)
theorem AdrBd.mono {B B' : Nat} {a : Adr} (h : AdrBd B a) (hB : B ≤ B') : AdrBd B' a := by
 obtain ⟨⟨h1, h2, h3, h4⟩, h5, h6, h7, h8⟩ := h
 exact ⟨⟨by omega, by omega, by omega, by omega⟩, h5, fun p hp => by have := h6 p hp; omega, fun p hp => by have := h7 p hp; omega, fun p hp => by have := h8 p hp; omega⟩
end Go.Proofs.YtipdiddjhimdcaaGreatDoor
