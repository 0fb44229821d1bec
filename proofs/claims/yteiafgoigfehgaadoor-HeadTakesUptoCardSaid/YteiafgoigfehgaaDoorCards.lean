/-
  DERIVED. GIVEN WITH THE SEED: THE CARDS: each row of YteiafgoigfehgaaDoorRows.lean that lists a variable, with what it lists TIED to the program's text (the seventh form; the later family's looks); each row that meets fmt, with fmt's text TOLD by the authors' own Lean function (tested against real Go, not proved from fmt's source: count such statements apart). THE CARD IS WHAT COUNTS. Prove the row's statement (the work); the ties are given (YteiafgoigfehgaaDoorTie.lean); close each card by the builder's one call (the guide's Derived/Test/ToyasCard.lean, 'card_holds'). Laid BY PROGRAM, IN A SANDBOX (cutbox-door.mjs). By AI agents, Wed Nov 11 2026. No macro, syntax, notation, axiom, sorry.
-/
import Derived.Test.YteiafgoigfehgaaDoorRows
import GoSem.ClaimSeven
namespace Go.Proofs.YteiafgoigfehgaaDoor
namespace Rows

/-- THE TIED CARD OF 'rosterlaw08.HeadTypes'. -/
def headTypesCard : Claim7 := { stood := { row := headTypesRow, standIns := [], harness := (true, "72e8cdc1f29992ae34ad5c8b0c7d1810fe482f0aad1f7df1f130f2a2f1c6237f"), looks := false }, kinds := [], alts := [], laidByText := true, laidKinds := [.data, .pinned], laidTests := true, laidLooks := .later }
def HeadTypesCardSaid : Prop := Claim7.holds Tryd.pinned (.plain (OpenSpec.ofChange headTypesSpec)) headTypesCard

/-- THE TIED CARD OF 'rosterlaw08.HeadTakes'. -/
def headTakesCard : Claim7 := { stood := { row := headTakesRow, standIns := [], harness := (true, "72e8cdc1f29992ae34ad5c8b0c7d1810fe482f0aad1f7df1f130f2a2f1c6237f"), looks := false }, kinds := [], alts := [], laidByText := true, laidKinds := [.data, .pinned], laidTests := true, laidLooks := .later }
def HeadTakesCardSaid : Prop := Claim7.holds Tryd.pinned (.plain (OpenSpec.ofChange headTakesSpec)) headTakesCard

/-- THE TIED CARD OF 'rosterlaw08.HeadTimes'. -/
def headTimesCard : Claim7 := { stood := { row := headTimesRow, standIns := [], harness := (true, "72e8cdc1f29992ae34ad5c8b0c7d1810fe482f0aad1f7df1f130f2a2f1c6237f"), looks := false }, kinds := [], alts := [], laidByText := true, laidKinds := [.data, .pinned], laidTests := true, laidLooks := .later }
def HeadTimesCardSaid : Prop := Claim7.holds Tryd.pinned (.plain (OpenSpec.ofChange headTimesSpec)) headTimesCard

/-- THE TIED CARD OF 'rosterlaw08.HeadStates'. -/
def headStatesCard : Claim7 := { stood := { row := headStatesRow, standIns := [], harness := (true, "72e8cdc1f29992ae34ad5c8b0c7d1810fe482f0aad1f7df1f130f2a2f1c6237f"), looks := false }, kinds := [], alts := [], laidByText := true, laidKinds := [.data, .pinned], laidTests := true, laidLooks := .later }
def HeadStatesCardSaid : Prop := Claim7.holds Tryd.pinned (.plain (OpenSpec.ofChange headStatesSpec)) headStatesCard

/-- THE TIED CARD OF 'rosterlaw08.HeadSeqs'. -/
def headSeqsCard : Claim7 := { stood := { row := headSeqsRow, standIns := [], harness := (true, "72e8cdc1f29992ae34ad5c8b0c7d1810fe482f0aad1f7df1f130f2a2f1c6237f"), looks := false }, kinds := [], alts := [], laidByText := true, laidKinds := [.data, .pinned], laidTests := true, laidLooks := .later }
def HeadSeqsCardSaid : Prop := Claim7.holds Tryd.pinned (.plain (OpenSpec.ofChange headSeqsSpec)) headSeqsCard

/-- THE TIED CARD OF 'rosterlaw08.HeadEvents'. -/
def headEventsCard : Claim7 := { stood := { row := headEventsRow, standIns := [], harness := (true, "72e8cdc1f29992ae34ad5c8b0c7d1810fe482f0aad1f7df1f130f2a2f1c6237f"), looks := false }, kinds := [], alts := [], laidByText := true, laidKinds := [.data, .pinned], laidTests := true, laidLooks := .later }
def HeadEventsCardSaid : Prop := Claim7.holds Tryd.pinned (.plain (OpenSpec.ofChange headEventsSpec)) headEventsCard

/-- THE TIED CARD OF 'rosterlaw08.HeadOnce'. -/
def headOnceCard : Claim7 := { stood := { row := headOnceRow, standIns := [], harness := (true, "72e8cdc1f29992ae34ad5c8b0c7d1810fe482f0aad1f7df1f130f2a2f1c6237f"), looks := false }, kinds := [], alts := [], laidByText := true, laidKinds := [.data, .pinned], laidTests := true, laidLooks := .later }
def HeadOnceCardSaid : Prop := Claim7.holds Tryd.pinned (.plain (OpenSpec.ofChange headOnceSpec)) headOnceCard

/-- THE TIED CARD OF 'rosterlaw08.HeadBack'. -/
def headBackCard : Claim7 := { stood := { row := headBackRow, standIns := [], harness := (true, "72e8cdc1f29992ae34ad5c8b0c7d1810fe482f0aad1f7df1f130f2a2f1c6237f"), looks := false }, kinds := [], alts := [], laidByText := true, laidKinds := [.data, .pinned], laidTests := true, laidLooks := .later }
def HeadBackCardSaid : Prop := Claim7.holds Tryd.pinned (.plain (OpenSpec.ofChange headBackSpec)) headBackCard

/-- THE SECOND FORM's CARD OF 'rosterlaw08.HeadTypes'. -/
def headTypesUptoCard : Claim7 := { stood := { row := headTypesUptoRow, standIns := [], harness := (true, "72e8cdc1f29992ae34ad5c8b0c7d1810fe482f0aad1f7df1f130f2a2f1c6237f"), looks := false }, kinds := [], alts := [], laidByText := true, laidKinds := [.data, .pinned], laidTests := true, laidLooks := .later }
def HeadTypesUptoCardSaid : Prop := Claim7.holds Tryd.pinned (.plain (OpenSpec.upto headTypesSpec)) headTypesUptoCard

/-- THE SECOND FORM's CARD OF 'rosterlaw08.HeadTakes'. -/
def headTakesUptoCard : Claim7 := { stood := { row := headTakesUptoRow, standIns := [], harness := (true, "72e8cdc1f29992ae34ad5c8b0c7d1810fe482f0aad1f7df1f130f2a2f1c6237f"), looks := false }, kinds := [], alts := [], laidByText := true, laidKinds := [.data, .pinned], laidTests := true, laidLooks := .later }
def HeadTakesUptoCardSaid : Prop := Claim7.holds Tryd.pinned (.plain (OpenSpec.upto headTakesSpec)) headTakesUptoCard

/-- THE SECOND FORM's CARD OF 'rosterlaw08.HeadTimes'. -/
def headTimesUptoCard : Claim7 := { stood := { row := headTimesUptoRow, standIns := [], harness := (true, "72e8cdc1f29992ae34ad5c8b0c7d1810fe482f0aad1f7df1f130f2a2f1c6237f"), looks := false }, kinds := [], alts := [], laidByText := true, laidKinds := [.data, .pinned], laidTests := true, laidLooks := .later }
def HeadTimesUptoCardSaid : Prop := Claim7.holds Tryd.pinned (.plain (OpenSpec.upto headTimesSpec)) headTimesUptoCard

/-- THE SECOND FORM's CARD OF 'rosterlaw08.HeadStates'. -/
def headStatesUptoCard : Claim7 := { stood := { row := headStatesUptoRow, standIns := [], harness := (true, "72e8cdc1f29992ae34ad5c8b0c7d1810fe482f0aad1f7df1f130f2a2f1c6237f"), looks := false }, kinds := [], alts := [], laidByText := true, laidKinds := [.data, .pinned], laidTests := true, laidLooks := .later }
def HeadStatesUptoCardSaid : Prop := Claim7.holds Tryd.pinned (.plain (OpenSpec.upto headStatesSpec)) headStatesUptoCard

/-- THE SECOND FORM's CARD OF 'rosterlaw08.HeadSeqs'. -/
def headSeqsUptoCard : Claim7 := { stood := { row := headSeqsUptoRow, standIns := [], harness := (true, "72e8cdc1f29992ae34ad5c8b0c7d1810fe482f0aad1f7df1f130f2a2f1c6237f"), looks := false }, kinds := [], alts := [], laidByText := true, laidKinds := [.data, .pinned], laidTests := true, laidLooks := .later }
def HeadSeqsUptoCardSaid : Prop := Claim7.holds Tryd.pinned (.plain (OpenSpec.upto headSeqsSpec)) headSeqsUptoCard

/-- THE SECOND FORM's CARD OF 'rosterlaw08.HeadEvents'. -/
def headEventsUptoCard : Claim7 := { stood := { row := headEventsUptoRow, standIns := [], harness := (true, "72e8cdc1f29992ae34ad5c8b0c7d1810fe482f0aad1f7df1f130f2a2f1c6237f"), looks := false }, kinds := [], alts := [], laidByText := true, laidKinds := [.data, .pinned], laidTests := true, laidLooks := .later }
def HeadEventsUptoCardSaid : Prop := Claim7.holds Tryd.pinned (.plain (OpenSpec.upto headEventsSpec)) headEventsUptoCard

/-- THE SECOND FORM's CARD OF 'rosterlaw08.HeadOnce'. -/
def headOnceUptoCard : Claim7 := { stood := { row := headOnceUptoRow, standIns := [], harness := (true, "72e8cdc1f29992ae34ad5c8b0c7d1810fe482f0aad1f7df1f130f2a2f1c6237f"), looks := false }, kinds := [], alts := [], laidByText := true, laidKinds := [.data, .pinned], laidTests := true, laidLooks := .later }
def HeadOnceUptoCardSaid : Prop := Claim7.holds Tryd.pinned (.plain (OpenSpec.upto headOnceSpec)) headOnceUptoCard

/-- THE SECOND FORM's CARD OF 'rosterlaw08.HeadBack'. -/
def headBackUptoCard : Claim7 := { stood := { row := headBackUptoRow, standIns := [], harness := (true, "72e8cdc1f29992ae34ad5c8b0c7d1810fe482f0aad1f7df1f130f2a2f1c6237f"), looks := false }, kinds := [], alts := [], laidByText := true, laidKinds := [.data, .pinned], laidTests := true, laidLooks := .later }
def HeadBackUptoCardSaid : Prop := Claim7.holds Tryd.pinned (.plain (OpenSpec.upto headBackSpec)) headBackUptoCard
end Rows
end Go.Proofs.YteiafgoigfehgaaDoor
