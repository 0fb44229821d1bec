/-
  DERIVED. GIVEN WITH THE SEED: THE CARDS: each row of YtjpmfcipjaeemaaDoorRows.lean that lists a variable, with what it lists TIED to the program's text (the seventh form; the later family's looks); each row that meets fmt, with fmt's text TOLD by the authors' own Lean function (tested against real Go, not proved from fmt's source: count such statements apart). THE CARD IS WHAT COUNTS. Prove the row's statement (the work); the ties are given (YtjpmfcipjaeemaaDoorTie.lean); close each card by the builder's one call (the guide's Derived/Test/ToyasCard.lean, 'card_holds'). Laid BY PROGRAM, IN A SANDBOX (cutbox-door.mjs). By AI agents, Wed Nov 11 2026. No macro, syntax, notation, axiom, sorry.
-/
import Derived.Test.YtjpmfcipjaeemaaDoorRows
import GoSem.ClaimSeven
namespace Go.Proofs.YtjpmfcipjaeemaaDoor
namespace Rows

/-- THE TIED CARD OF 'rosterlaw05.AddrFields'. -/
def addrFieldsCard : Claim7 := { stood := { row := addrFieldsRow, standIns := [], harness := (true, "14fd03adc0192454304c01399fbc51ab7c4afccc638cab872e4c40e22a8fdfc8"), looks := false }, kinds := [], alts := [], laidByText := true, laidKinds := [.data, .pinned], laidTests := true, laidLooks := .later }
def AddrFieldsCardSaid : Prop := Claim7.holds Tryd.pinned (.plain (OpenSpec.ofChange addrFieldsSpec)) addrFieldsCard

/-- THE TIED CARD OF 'rosterlaw05.AddrBack'. -/
def addrBackCard : Claim7 := { stood := { row := addrBackRow, standIns := [], harness := (true, "14fd03adc0192454304c01399fbc51ab7c4afccc638cab872e4c40e22a8fdfc8"), looks := false }, kinds := [], alts := [], laidByText := true, laidKinds := [.data, .pinned], laidTests := true, laidLooks := .later }
def AddrBackCardSaid : Prop := Claim7.holds Tryd.pinned (.plain (OpenSpec.ofChange addrBackSpec)) addrBackCard

/-- THE TIED CARD OF 'rosterlaw05.AddrOnce'. -/
def addrOnceCard : Claim7 := { stood := { row := addrOnceRow, standIns := [], harness := (true, "14fd03adc0192454304c01399fbc51ab7c4afccc638cab872e4c40e22a8fdfc8"), looks := false }, kinds := [], alts := [], laidByText := true, laidKinds := [.data, .pinned], laidTests := true, laidLooks := .later }
def AddrOnceCardSaid : Prop := Claim7.holds Tryd.pinned (.plain (OpenSpec.ofChange addrOnceSpec)) addrOnceCard

/-- THE TIED CARD OF 'rosterlaw05.AddrMany'. -/
def addrManyCard : Claim7 := { stood := { row := addrManyRow, standIns := [], harness := (true, "14fd03adc0192454304c01399fbc51ab7c4afccc638cab872e4c40e22a8fdfc8"), looks := false }, kinds := [], alts := [], laidByText := true, laidKinds := [.data, .pinned], laidTests := true, laidLooks := .later }
def AddrManyCardSaid : Prop := Claim7.holds Tryd.pinned (.plain (OpenSpec.ofChange addrManySpec)) addrManyCard

/-- THE SECOND FORM's CARD OF 'rosterlaw05.AddrFields'. -/
def addrFieldsUptoCard : Claim7 := { stood := { row := addrFieldsUptoRow, standIns := [], harness := (true, "14fd03adc0192454304c01399fbc51ab7c4afccc638cab872e4c40e22a8fdfc8"), looks := false }, kinds := [], alts := [], laidByText := true, laidKinds := [.data, .pinned], laidTests := true, laidLooks := .later }
def AddrFieldsUptoCardSaid : Prop := Claim7.holds Tryd.pinned (.plain (OpenSpec.upto addrFieldsSpec)) addrFieldsUptoCard

/-- THE SECOND FORM's CARD OF 'rosterlaw05.AddrBack'. -/
def addrBackUptoCard : Claim7 := { stood := { row := addrBackUptoRow, standIns := [], harness := (true, "14fd03adc0192454304c01399fbc51ab7c4afccc638cab872e4c40e22a8fdfc8"), looks := false }, kinds := [], alts := [], laidByText := true, laidKinds := [.data, .pinned], laidTests := true, laidLooks := .later }
def AddrBackUptoCardSaid : Prop := Claim7.holds Tryd.pinned (.plain (OpenSpec.upto addrBackSpec)) addrBackUptoCard

/-- THE SECOND FORM's CARD OF 'rosterlaw05.AddrOnce'. -/
def addrOnceUptoCard : Claim7 := { stood := { row := addrOnceUptoRow, standIns := [], harness := (true, "14fd03adc0192454304c01399fbc51ab7c4afccc638cab872e4c40e22a8fdfc8"), looks := false }, kinds := [], alts := [], laidByText := true, laidKinds := [.data, .pinned], laidTests := true, laidLooks := .later }
def AddrOnceUptoCardSaid : Prop := Claim7.holds Tryd.pinned (.plain (OpenSpec.upto addrOnceSpec)) addrOnceUptoCard

/-- THE SECOND FORM's CARD OF 'rosterlaw05.AddrMany'. -/
def addrManyUptoCard : Claim7 := { stood := { row := addrManyUptoRow, standIns := [], harness := (true, "14fd03adc0192454304c01399fbc51ab7c4afccc638cab872e4c40e22a8fdfc8"), looks := false }, kinds := [], alts := [], laidByText := true, laidKinds := [.data, .pinned], laidTests := true, laidLooks := .later }
def AddrManyUptoCardSaid : Prop := Claim7.holds Tryd.pinned (.plain (OpenSpec.upto addrManySpec)) addrManyUptoCard
end Rows
end Go.Proofs.YtjpmfcipjaeemaaDoor
