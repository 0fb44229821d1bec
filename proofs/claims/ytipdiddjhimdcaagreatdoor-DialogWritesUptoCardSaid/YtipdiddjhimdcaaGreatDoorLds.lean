/- Contracts of Go functions, and plain laws. No condition but those told. -/
import Derived.Test.YtipdiddjhimdcaaGreatDoorOpw
set_option linter.unusedSimpArgs false
set_option linter.unusedVariables false
set_option maxRecDepth 100000
namespace Go.Proofs.YtipdiddjhimdcaaGreatDoor
open Go.RowKit Go.Sort
theorem route_bd (x : List UInt8) (h : (parseA x).2 = 0) : (parseA x).1.uri.host.length ≤ 4294967280 ∧ -9223372036854775808 ≤ (parseA x).1.uri.port ∧ (parseA x).1.uri.port ≤ 9223372036854775807 := by
 obtain ⟨_, _, h3, _⟩ := checkA_parts _ ((parseA_ok x).1 h)
 obtain ⟨_, _, h4, h5, h6, _⟩ := checkU_parts _ h3
 unfold hostS at h4
 simp only [Bool.and_eq_true, decide_eq_true_eq] at h4
 exact ⟨by omega, by omega, by omega⟩
end Go.Proofs.YtipdiddjhimdcaaGreatDoor
