/-
  DERIVED. GIVEN WITH THE SEED: THE CARDS: each row of YtjohecbmeoalaaaDoorRows.lean that lists a variable, with what it lists TIED to the program's text (the seventh form; the later family's looks); each row that meets fmt, with fmt's text TOLD by the authors' own Lean function (tested against real Go, not proved from fmt's source: count such statements apart). THE CARD IS WHAT COUNTS. Prove the row's statement (the work); the ties are given (YtjohecbmeoalaaaDoorTie.lean); close each card by the builder's one call (the guide's Derived/Test/ToyasCard.lean, 'card_holds'). Laid BY PROGRAM, IN A SANDBOX (cutbox-door.mjs). By AI agents, Wed Nov 11 2026. No macro, syntax, notation, axiom, sorry.
-/
import Derived.Test.YtjohecbmeoalaaaDoorRows
import GoSem.ClaimSeven
namespace Go.Proofs.YtjohecbmeoalaaaDoor
namespace Rows

/-- THE TIED CARD OF 'rosterlaw07.ViaParses'. -/
def viaParsesCard : Claim7 := { stood := { row := viaParsesRow, standIns := [], harness := (true, "1b32317291f07c648169a35fce0ee305be2f79c8832f0297c71fd0e14d8f3264"), looks := false }, kinds := [], alts := [], laidByText := true, laidKinds := [.data, .pinned], laidTests := true, laidLooks := .later }
def ViaParsesCardSaid : Prop := Claim7.holds Tryd.pinned (.plain (OpenSpec.ofChange viaParsesSpec)) viaParsesCard

/-- THE TIED CARD OF 'rosterlaw07.ViaLists'. -/
def viaListsCard : Claim7 := { stood := { row := viaListsRow, standIns := [], harness := (true, "1b32317291f07c648169a35fce0ee305be2f79c8832f0297c71fd0e14d8f3264"), looks := false }, kinds := [], alts := [], laidByText := true, laidKinds := [.data, .pinned], laidTests := true, laidLooks := .later }
def ViaListsCardSaid : Prop := Claim7.holds Tryd.pinned (.plain (OpenSpec.ofChange viaListsSpec)) viaListsCard

/-- THE TIED CARD OF 'rosterlaw07.ViaPrints'. -/
def viaPrintsCard : Claim7 := { stood := { row := viaPrintsRow, standIns := [], harness := (true, "1b32317291f07c648169a35fce0ee305be2f79c8832f0297c71fd0e14d8f3264"), looks := false }, kinds := [], alts := [], laidByText := true, laidKinds := [.data, .pinned], laidTests := true, laidLooks := .later }
def ViaPrintsCardSaid : Prop := Claim7.holds Tryd.pinned (.plain (OpenSpec.ofChange viaPrintsSpec)) viaPrintsCard

/-- THE TIED CARD OF 'rosterlaw07.ViaBack'. -/
def viaBackCard : Claim7 := { stood := { row := viaBackRow, standIns := [], harness := (true, "1b32317291f07c648169a35fce0ee305be2f79c8832f0297c71fd0e14d8f3264"), looks := false }, kinds := [], alts := [], laidByText := true, laidKinds := [.data, .pinned], laidTests := true, laidLooks := .later }
def ViaBackCardSaid : Prop := Claim7.holds Tryd.pinned (.plain (OpenSpec.ofChange viaBackSpec)) viaBackCard

/-- THE TIED CARD OF 'rosterlaw07.ViaOnce'. -/
def viaOnceCard : Claim7 := { stood := { row := viaOnceRow, standIns := [], harness := (true, "1b32317291f07c648169a35fce0ee305be2f79c8832f0297c71fd0e14d8f3264"), looks := false }, kinds := [], alts := [], laidByText := true, laidKinds := [.data, .pinned], laidTests := true, laidLooks := .later }
def ViaOnceCardSaid : Prop := Claim7.holds Tryd.pinned (.plain (OpenSpec.ofChange viaOnceSpec)) viaOnceCard

/-- THE TIED CARD OF 'rosterlaw07.ViaSpread'. -/
def viaSpreadCard : Claim7 := { stood := { row := viaSpreadRow, standIns := [], harness := (true, "1b32317291f07c648169a35fce0ee305be2f79c8832f0297c71fd0e14d8f3264"), looks := false }, kinds := [], alts := [], laidByText := true, laidKinds := [.data, .pinned], laidTests := true, laidLooks := .later }
def ViaSpreadCardSaid : Prop := Claim7.holds Tryd.pinned (.plain (OpenSpec.ofChange viaSpreadSpec)) viaSpreadCard

/-- THE SECOND FORM's CARD OF 'rosterlaw07.ViaParses'. -/
def viaParsesUptoCard : Claim7 := { stood := { row := viaParsesUptoRow, standIns := [], harness := (true, "1b32317291f07c648169a35fce0ee305be2f79c8832f0297c71fd0e14d8f3264"), looks := false }, kinds := [], alts := [], laidByText := true, laidKinds := [.data, .pinned], laidTests := true, laidLooks := .later }
def ViaParsesUptoCardSaid : Prop := Claim7.holds Tryd.pinned (.plain (OpenSpec.upto viaParsesSpec)) viaParsesUptoCard

/-- THE SECOND FORM's CARD OF 'rosterlaw07.ViaLists'. -/
def viaListsUptoCard : Claim7 := { stood := { row := viaListsUptoRow, standIns := [], harness := (true, "1b32317291f07c648169a35fce0ee305be2f79c8832f0297c71fd0e14d8f3264"), looks := false }, kinds := [], alts := [], laidByText := true, laidKinds := [.data, .pinned], laidTests := true, laidLooks := .later }
def ViaListsUptoCardSaid : Prop := Claim7.holds Tryd.pinned (.plain (OpenSpec.upto viaListsSpec)) viaListsUptoCard

/-- THE SECOND FORM's CARD OF 'rosterlaw07.ViaPrints'. -/
def viaPrintsUptoCard : Claim7 := { stood := { row := viaPrintsUptoRow, standIns := [], harness := (true, "1b32317291f07c648169a35fce0ee305be2f79c8832f0297c71fd0e14d8f3264"), looks := false }, kinds := [], alts := [], laidByText := true, laidKinds := [.data, .pinned], laidTests := true, laidLooks := .later }
def ViaPrintsUptoCardSaid : Prop := Claim7.holds Tryd.pinned (.plain (OpenSpec.upto viaPrintsSpec)) viaPrintsUptoCard

/-- THE SECOND FORM's CARD OF 'rosterlaw07.ViaBack'. -/
def viaBackUptoCard : Claim7 := { stood := { row := viaBackUptoRow, standIns := [], harness := (true, "1b32317291f07c648169a35fce0ee305be2f79c8832f0297c71fd0e14d8f3264"), looks := false }, kinds := [], alts := [], laidByText := true, laidKinds := [.data, .pinned], laidTests := true, laidLooks := .later }
def ViaBackUptoCardSaid : Prop := Claim7.holds Tryd.pinned (.plain (OpenSpec.upto viaBackSpec)) viaBackUptoCard

/-- THE SECOND FORM's CARD OF 'rosterlaw07.ViaOnce'. -/
def viaOnceUptoCard : Claim7 := { stood := { row := viaOnceUptoRow, standIns := [], harness := (true, "1b32317291f07c648169a35fce0ee305be2f79c8832f0297c71fd0e14d8f3264"), looks := false }, kinds := [], alts := [], laidByText := true, laidKinds := [.data, .pinned], laidTests := true, laidLooks := .later }
def ViaOnceUptoCardSaid : Prop := Claim7.holds Tryd.pinned (.plain (OpenSpec.upto viaOnceSpec)) viaOnceUptoCard

/-- THE SECOND FORM's CARD OF 'rosterlaw07.ViaSpread'. -/
def viaSpreadUptoCard : Claim7 := { stood := { row := viaSpreadUptoRow, standIns := [], harness := (true, "1b32317291f07c648169a35fce0ee305be2f79c8832f0297c71fd0e14d8f3264"), looks := false }, kinds := [], alts := [], laidByText := true, laidKinds := [.data, .pinned], laidTests := true, laidLooks := .later }
def ViaSpreadUptoCardSaid : Prop := Claim7.holds Tryd.pinned (.plain (OpenSpec.upto viaSpreadSpec)) viaSpreadUptoCard
end Rows
end Go.Proofs.YtjohecbmeoalaaaDoor
