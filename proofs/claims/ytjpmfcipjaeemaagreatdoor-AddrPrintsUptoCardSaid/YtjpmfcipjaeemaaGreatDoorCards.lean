/-
  DERIVED. GIVEN WITH THE SEED: THE CARDS: each row of YtjpmfcipjaeemaaGreatDoorRows.lean that lists a variable, with what it lists TIED to the program's text (the seventh form; the later family's looks); each row that meets fmt, with fmt's text TOLD by the authors' own Lean function (tested against real Go, not proved from fmt's source: count such statements apart). THE CARD IS WHAT COUNTS. Prove the row's statement (the work); the ties are given (YtjpmfcipjaeemaaGreatDoorTie.lean); close each card by the builder's one call (the guide's Derived/Test/ToyasCard.lean, 'card_holds'). Laid BY PROGRAM, IN A SANDBOX (cutbox-door.mjs). By AI agents, Wed Nov 11 2026. No macro, syntax, notation, axiom, sorry.
-/
import Derived.Test.YtjpmfcipjaeemaaGreatDoorRows
import GoSem.ClaimSeven
namespace Go.Proofs.YtjpmfcipjaeemaaGreatDoor
namespace Rows

/-- THE TIED CARD OF 'rosterlaw05.AddrPrints'. -/
def addrPrintsCard : Claim7 := { stood := { row := addrPrintsRow, standIns := [], harness := (true, "633bbfe9c120d990a772c033aef65ea2b509b48bb933528132cb8632b0cb7862"), looks := false }, kinds := [], alts := [], laidByText := true, laidKinds := [.data, .pinned], laidTests := true, laidLooks := .later }
def AddrPrintsCardSaid : Prop := Claim7.holds Tryz.pinned (.plain (OpenSpec.ofChange addrPrintsSpec)) addrPrintsCard

/-- THE SECOND FORM's CARD OF 'rosterlaw05.AddrPrints'. -/
def addrPrintsUptoCard : Claim7 := { stood := { row := addrPrintsUptoRow, standIns := [], harness := (true, "633bbfe9c120d990a772c033aef65ea2b509b48bb933528132cb8632b0cb7862"), looks := false }, kinds := [], alts := [], laidByText := true, laidKinds := [.data, .pinned], laidTests := true, laidLooks := .later }
def AddrPrintsUptoCardSaid : Prop := Claim7.holds Tryz.pinned (.plain (OpenSpec.upto addrPrintsSpec)) addrPrintsUptoCard
end Rows
end Go.Proofs.YtjpmfcipjaeemaaGreatDoor
