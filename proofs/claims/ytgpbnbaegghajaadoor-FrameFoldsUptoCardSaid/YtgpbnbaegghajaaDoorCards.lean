/-
  DERIVED. GIVEN WITH THE SEED: THE CARDS: each row of YtgpbnbaegghajaaDoorRows.lean that lists a variable, with what it lists TIED to the program's text (the seventh form; the later family's looks); each row that meets fmt, with fmt's text TOLD by the authors' own Lean function (tested against real Go, not proved from fmt's source: count such statements apart). THE CARD IS WHAT COUNTS. Prove the row's statement (the work); the ties are given (YtgpbnbaegghajaaDoorTie.lean); close each card by the builder's one call (the guide's Derived/Test/ToyasCard.lean, 'card_holds'). Laid BY PROGRAM, IN A SANDBOX (cutbox-door.mjs). By AI agents, Wed Nov 11 2026. No macro, syntax, notation, axiom, sorry.
-/
import Derived.Test.YtgpbnbaegghajaaDoorRows
import GoSem.ClaimSeven
namespace Go.Proofs.YtgpbnbaegghajaaDoor
namespace Rows

/-- THE TIED CARD OF 'rosterlaw06.FrameParses'. -/
def frameParsesCard : Claim7 := { stood := { row := frameParsesRow, standIns := [], harness := (true, "63a271724cfc853e34da0417495a7cfeca076cb2328881f3921aa4585caa34cc"), looks := false }, kinds := [], alts := [], laidByText := true, laidKinds := [.data, .pinned], laidTests := true, laidLooks := .later }
def FrameParsesCardSaid : Prop := Claim7.holds Tryd.pinned (.plain (OpenSpec.ofChange frameParsesSpec)) frameParsesCard

/-- THE TIED CARD OF 'rosterlaw06.FrameFinds'. -/
def frameFindsCard : Claim7 := { stood := { row := frameFindsRow, standIns := [], harness := (true, "63a271724cfc853e34da0417495a7cfeca076cb2328881f3921aa4585caa34cc"), looks := false }, kinds := [], alts := [], laidByText := true, laidKinds := [.data, .pinned], laidTests := true, laidLooks := .later }
def FrameFindsCardSaid : Prop := Claim7.holds Tryd.pinned (.plain (OpenSpec.ofChange frameFindsSpec)) frameFindsCard

/-- THE TIED CARD OF 'rosterlaw06.FramePrints'. -/
def framePrintsCard : Claim7 := { stood := { row := framePrintsRow, standIns := [], harness := (true, "63a271724cfc853e34da0417495a7cfeca076cb2328881f3921aa4585caa34cc"), looks := false }, kinds := [], alts := [], laidByText := true, laidKinds := [.data, .pinned], laidTests := true, laidLooks := .later }
def FramePrintsCardSaid : Prop := Claim7.holds Tryd.pinned (.plain (OpenSpec.ofChange framePrintsSpec)) framePrintsCard

/-- THE TIED CARD OF 'rosterlaw06.FrameBack'. -/
def frameBackCard : Claim7 := { stood := { row := frameBackRow, standIns := [], harness := (true, "63a271724cfc853e34da0417495a7cfeca076cb2328881f3921aa4585caa34cc"), looks := false }, kinds := [], alts := [], laidByText := true, laidKinds := [.data, .pinned], laidTests := true, laidLooks := .later }
def FrameBackCardSaid : Prop := Claim7.holds Tryd.pinned (.plain (OpenSpec.ofChange frameBackSpec)) frameBackCard

/-- THE TIED CARD OF 'rosterlaw06.FrameOnce'. -/
def frameOnceCard : Claim7 := { stood := { row := frameOnceRow, standIns := [], harness := (true, "63a271724cfc853e34da0417495a7cfeca076cb2328881f3921aa4585caa34cc"), looks := false }, kinds := [], alts := [], laidByText := true, laidKinds := [.data, .pinned], laidTests := true, laidLooks := .later }
def FrameOnceCardSaid : Prop := Claim7.holds Tryd.pinned (.plain (OpenSpec.ofChange frameOnceSpec)) frameOnceCard

/-- THE TIED CARD OF 'rosterlaw06.FrameFolds'. -/
def frameFoldsCard : Claim7 := { stood := { row := frameFoldsRow, standIns := [], harness := (true, "63a271724cfc853e34da0417495a7cfeca076cb2328881f3921aa4585caa34cc"), looks := false }, kinds := [], alts := [], laidByText := true, laidKinds := [.data, .pinned], laidTests := true, laidLooks := .later }
def FrameFoldsCardSaid : Prop := Claim7.holds Tryd.pinned (.plain (OpenSpec.ofChange frameFoldsSpec)) frameFoldsCard

/-- THE SECOND FORM's CARD OF 'rosterlaw06.FrameParses'. -/
def frameParsesUptoCard : Claim7 := { stood := { row := frameParsesUptoRow, standIns := [], harness := (true, "63a271724cfc853e34da0417495a7cfeca076cb2328881f3921aa4585caa34cc"), looks := false }, kinds := [], alts := [], laidByText := true, laidKinds := [.data, .pinned], laidTests := true, laidLooks := .later }
def FrameParsesUptoCardSaid : Prop := Claim7.holds Tryd.pinned (.plain (OpenSpec.upto frameParsesSpec)) frameParsesUptoCard

/-- THE SECOND FORM's CARD OF 'rosterlaw06.FrameFinds'. -/
def frameFindsUptoCard : Claim7 := { stood := { row := frameFindsUptoRow, standIns := [], harness := (true, "63a271724cfc853e34da0417495a7cfeca076cb2328881f3921aa4585caa34cc"), looks := false }, kinds := [], alts := [], laidByText := true, laidKinds := [.data, .pinned], laidTests := true, laidLooks := .later }
def FrameFindsUptoCardSaid : Prop := Claim7.holds Tryd.pinned (.plain (OpenSpec.upto frameFindsSpec)) frameFindsUptoCard

/-- THE SECOND FORM's CARD OF 'rosterlaw06.FramePrints'. -/
def framePrintsUptoCard : Claim7 := { stood := { row := framePrintsUptoRow, standIns := [], harness := (true, "63a271724cfc853e34da0417495a7cfeca076cb2328881f3921aa4585caa34cc"), looks := false }, kinds := [], alts := [], laidByText := true, laidKinds := [.data, .pinned], laidTests := true, laidLooks := .later }
def FramePrintsUptoCardSaid : Prop := Claim7.holds Tryd.pinned (.plain (OpenSpec.upto framePrintsSpec)) framePrintsUptoCard

/-- THE SECOND FORM's CARD OF 'rosterlaw06.FrameBack'. -/
def frameBackUptoCard : Claim7 := { stood := { row := frameBackUptoRow, standIns := [], harness := (true, "63a271724cfc853e34da0417495a7cfeca076cb2328881f3921aa4585caa34cc"), looks := false }, kinds := [], alts := [], laidByText := true, laidKinds := [.data, .pinned], laidTests := true, laidLooks := .later }
def FrameBackUptoCardSaid : Prop := Claim7.holds Tryd.pinned (.plain (OpenSpec.upto frameBackSpec)) frameBackUptoCard

/-- THE SECOND FORM's CARD OF 'rosterlaw06.FrameOnce'. -/
def frameOnceUptoCard : Claim7 := { stood := { row := frameOnceUptoRow, standIns := [], harness := (true, "63a271724cfc853e34da0417495a7cfeca076cb2328881f3921aa4585caa34cc"), looks := false }, kinds := [], alts := [], laidByText := true, laidKinds := [.data, .pinned], laidTests := true, laidLooks := .later }
def FrameOnceUptoCardSaid : Prop := Claim7.holds Tryd.pinned (.plain (OpenSpec.upto frameOnceSpec)) frameOnceUptoCard

/-- THE SECOND FORM's CARD OF 'rosterlaw06.FrameFolds'. -/
def frameFoldsUptoCard : Claim7 := { stood := { row := frameFoldsUptoRow, standIns := [], harness := (true, "63a271724cfc853e34da0417495a7cfeca076cb2328881f3921aa4585caa34cc"), looks := false }, kinds := [], alts := [], laidByText := true, laidKinds := [.data, .pinned], laidTests := true, laidLooks := .later }
def FrameFoldsUptoCardSaid : Prop := Claim7.holds Tryd.pinned (.plain (OpenSpec.upto frameFoldsSpec)) frameFoldsUptoCard
end Rows
end Go.Proofs.YtgpbnbaegghajaaDoor
