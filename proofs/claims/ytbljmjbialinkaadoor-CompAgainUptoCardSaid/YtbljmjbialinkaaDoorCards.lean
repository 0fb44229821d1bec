/-
  DERIVED. GIVEN WITH THE SEED: THE CARDS: each row of YtbljmjbialinkaaDoorRows.lean that lists a variable, with what it lists TIED to the program's text (the seventh form; the later family's looks); each row that meets fmt, with fmt's text TOLD by the authors' own Lean function (tested against real Go, not proved from fmt's source: count such statements apart). THE CARD IS WHAT COUNTS. Prove the row's statement (the work); the ties are given (YtbljmjbialinkaaDoorTie.lean); close each card by the builder's one call (the guide's Derived/Test/ToyasCard.lean, 'card_holds'). Laid BY PROGRAM, IN A SANDBOX (cutbox-door.mjs). By AI agents, Wed Nov 11 2026. No macro, syntax, notation, axiom, sorry.
-/
import Derived.Test.YtbljmjbialinkaaDoorRows
import GoSem.ClaimSeven
namespace Go.Proofs.YtbljmjbialinkaaDoor
namespace Rows

/-- THE TIED CARD OF 'rosterlaw17.CompAlone'. -/
def compAloneCard : Claim7 := { stood := { row := compAloneRow, standIns := [], harness := (true, "a1aeb6d6f917bfa53f833f4e3dc6cff519a0c5515e3f7b565201d863dcc6cc65"), looks := false }, kinds := [], alts := [], laidByText := true, laidKinds := [.data, .pinned], laidTests := true, laidLooks := .later }
def CompAloneCardSaid : Prop := Claim7.holds Tryd.pinned (.plain (OpenSpec.ofChange compAloneSpec)) compAloneCard

/-- THE TIED CARD OF 'rosterlaw17.CompBehind'. -/
def compBehindCard : Claim7 := { stood := { row := compBehindRow, standIns := [], harness := (true, "a1aeb6d6f917bfa53f833f4e3dc6cff519a0c5515e3f7b565201d863dcc6cc65"), looks := false }, kinds := [], alts := [], laidByText := true, laidKinds := [.data, .pinned], laidTests := true, laidLooks := .later }
def CompBehindCardSaid : Prop := Claim7.holds Tryd.pinned (.plain (OpenSpec.ofChange compBehindSpec)) compBehindCard

/-- THE TIED CARD OF 'rosterlaw17.CompAgain'. -/
def compAgainCard : Claim7 := { stood := { row := compAgainRow, standIns := [], harness := (true, "a1aeb6d6f917bfa53f833f4e3dc6cff519a0c5515e3f7b565201d863dcc6cc65"), looks := false }, kinds := [], alts := [], laidByText := true, laidKinds := [.data, .pinned], laidTests := true, laidLooks := .later }
def CompAgainCardSaid : Prop := Claim7.holds Tryd.pinned (.plain (OpenSpec.ofChange compAgainSpec)) compAgainCard

/-- THE TIED CARD OF 'rosterlaw17.CompOwn'. -/
def compOwnCard : Claim7 := { stood := { row := compOwnRow, standIns := [], harness := (true, "a1aeb6d6f917bfa53f833f4e3dc6cff519a0c5515e3f7b565201d863dcc6cc65"), looks := false }, kinds := [], alts := [], laidByText := true, laidKinds := [.data, .pinned], laidTests := true, laidLooks := .later }
def CompOwnCardSaid : Prop := Claim7.holds Tryd.pinned (.plain (OpenSpec.ofChange compOwnSpec)) compOwnCard

/-- THE SECOND FORM's CARD OF 'rosterlaw17.CompAlone'. -/
def compAloneUptoCard : Claim7 := { stood := { row := compAloneUptoRow, standIns := [], harness := (true, "a1aeb6d6f917bfa53f833f4e3dc6cff519a0c5515e3f7b565201d863dcc6cc65"), looks := false }, kinds := [], alts := [], laidByText := true, laidKinds := [.data, .pinned], laidTests := true, laidLooks := .later }
def CompAloneUptoCardSaid : Prop := Claim7.holds Tryd.pinned (.plain (OpenSpec.upto compAloneSpec)) compAloneUptoCard

/-- THE SECOND FORM's CARD OF 'rosterlaw17.CompBehind'. -/
def compBehindUptoCard : Claim7 := { stood := { row := compBehindUptoRow, standIns := [], harness := (true, "a1aeb6d6f917bfa53f833f4e3dc6cff519a0c5515e3f7b565201d863dcc6cc65"), looks := false }, kinds := [], alts := [], laidByText := true, laidKinds := [.data, .pinned], laidTests := true, laidLooks := .later }
def CompBehindUptoCardSaid : Prop := Claim7.holds Tryd.pinned (.plain (OpenSpec.upto compBehindSpec)) compBehindUptoCard

/-- THE SECOND FORM's CARD OF 'rosterlaw17.CompAgain'. -/
def compAgainUptoCard : Claim7 := { stood := { row := compAgainUptoRow, standIns := [], harness := (true, "a1aeb6d6f917bfa53f833f4e3dc6cff519a0c5515e3f7b565201d863dcc6cc65"), looks := false }, kinds := [], alts := [], laidByText := true, laidKinds := [.data, .pinned], laidTests := true, laidLooks := .later }
def CompAgainUptoCardSaid : Prop := Claim7.holds Tryd.pinned (.plain (OpenSpec.upto compAgainSpec)) compAgainUptoCard

/-- THE SECOND FORM's CARD OF 'rosterlaw17.CompOwn'. -/
def compOwnUptoCard : Claim7 := { stood := { row := compOwnUptoRow, standIns := [], harness := (true, "a1aeb6d6f917bfa53f833f4e3dc6cff519a0c5515e3f7b565201d863dcc6cc65"), looks := false }, kinds := [], alts := [], laidByText := true, laidKinds := [.data, .pinned], laidTests := true, laidLooks := .later }
def CompOwnUptoCardSaid : Prop := Claim7.holds Tryd.pinned (.plain (OpenSpec.upto compOwnSpec)) compOwnUptoCard
end Rows
end Go.Proofs.YtbljmjbialinkaaDoor
