/- Contracts of Go functions, and plain laws. No condition but those told. -/
import Derived.Test.YtipdiddjhimdcaaGreatDoorRav
import Derived.WalkKit
import Derived.Lib.IndexEntry
import Derived.WalkSpells
import Derived.WalkLawsBesides
import Derived.Lib.Hide
import Derived.Deep.QuietTactic
import Derived.BigQuiet
import Derived.WalkSmall
import Derived.Lib.ConvBytes
import Derived.Laws.IdiomStrings
import Derived.Deep.RegionLaw
import Derived.Lib.AppendStr
import Derived.Test.YtipdiddjhimdcaaGreatDoorRows
set_option linter.unusedSimpArgs false
set_option linter.unusedVariables false
set_option maxRecDepth 100000
namespace Go.Proofs.YtipdiddjhimdcaaGreatDoor
section
open Go.RowKit
end
section
open Go.RowKit
end
section
open Go.RowKit
end
section
open Go.RowKit
end
section
open Go.RowKit
theorem Strs.built (w : World) (base : Nat) (e : TypeId) (hb : base ≤ w.heap.size) : Strs (w.alloc (.cells #[] e)) base e (.slice (some ⟨w.heap.size, 0, none⟩) 0 0) [] :=
 ⟨rfl, .inr ⟨w.heap.size, 0, #[], rfl, hb, by unfold World.alloc; simp, ρ _, Nat.zero_le _, rfl, rfl⟩⟩
end
section
open Go.RowKit
end
end Go.Proofs.YtipdiddjhimdcaaGreatDoor
