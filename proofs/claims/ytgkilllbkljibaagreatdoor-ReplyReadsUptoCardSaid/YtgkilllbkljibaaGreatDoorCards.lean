/-
  DERIVED. GIVEN WITH THE SEED: THE CARDS: each row of YtgkilllbkljibaaGreatDoorRows.lean that lists a variable, with what it lists TIED to the program's text (the seventh form; the later family's looks); each row that meets fmt, with fmt's text TOLD by the authors' own Lean function (tested against real Go, not proved from fmt's source: count such statements apart). THE CARD IS WHAT COUNTS. Prove the row's statement (the work); the ties are given (YtgkilllbkljibaaGreatDoorTie.lean); close each card by the builder's one call (the guide's Derived/Test/ToyasCard.lean, 'card_holds'). Laid BY PROGRAM, IN A SANDBOX (cutbox-door.mjs). By AI agents, Wed Nov 11 2026. No macro, syntax, notation, axiom, sorry.
-/
import Derived.Test.YtgkilllbkljibaaGreatDoorRows
import GoSem.ClaimSeven
namespace Go.Proofs.YtgkilllbkljibaaGreatDoor
namespace Rows

/-- THE TIED CARD OF 'rosterlaw10.ReplyReads'. -/
def replyReadsCard : Claim7 := { stood := { row := replyReadsRow, standIns := [], harness := (true, "769b07fbe026a269a7d53002f42a1243d5c18f66354e6569a035951d6beedc26"), looks := false }, kinds := [], alts := [], laidByText := true, laidKinds := [.data, .pinned], laidTests := true, laidLooks := .later }
def ReplyReadsCardSaid : Prop := Claim7.holds Tryz.pinned (.plain (OpenSpec.ofChange replyReadsSpec)) replyReadsCard

/-- THE TIED CARD OF 'rosterlaw10.ReplyBases'. -/
def replyBasesCard : Claim7 := { stood := { row := replyBasesRow, standIns := [], harness := (true, "769b07fbe026a269a7d53002f42a1243d5c18f66354e6569a035951d6beedc26"), looks := false }, kinds := [], alts := [], laidByText := true, laidKinds := [.data, .pinned], laidTests := true, laidLooks := .later }
def ReplyBasesCardSaid : Prop := Claim7.holds Tryz.pinned (.plain (OpenSpec.ofChange replyBasesSpec)) replyBasesCard

/-- THE TIED CARD OF 'rosterlaw10.ReplyOrder'. -/
def replyOrderCard : Claim7 := { stood := { row := replyOrderRow, standIns := [], harness := (true, "769b07fbe026a269a7d53002f42a1243d5c18f66354e6569a035951d6beedc26"), looks := false }, kinds := [], alts := [], laidByText := true, laidKinds := [.data, .pinned], laidTests := true, laidLooks := .later }
def ReplyOrderCardSaid : Prop := Claim7.holds Tryz.pinned (.plain (OpenSpec.ofChange replyOrderSpec)) replyOrderCard

/-- THE TIED CARD OF 'rosterlaw10.ReplyMore'. -/
def replyMoreCard : Claim7 := { stood := { row := replyMoreRow, standIns := [], harness := (true, "769b07fbe026a269a7d53002f42a1243d5c18f66354e6569a035951d6beedc26"), looks := false }, kinds := [], alts := [], laidByText := true, laidKinds := [.data, .pinned], laidTests := true, laidLooks := .later }
def ReplyMoreCardSaid : Prop := Claim7.holds Tryz.pinned (.plain (OpenSpec.ofChange replyMoreSpec)) replyMoreCard

/-- THE SECOND FORM's CARD OF 'rosterlaw10.ReplyReads'. -/
def replyReadsUptoCard : Claim7 := { stood := { row := replyReadsUptoRow, standIns := [], harness := (true, "769b07fbe026a269a7d53002f42a1243d5c18f66354e6569a035951d6beedc26"), looks := false }, kinds := [], alts := [], laidByText := true, laidKinds := [.data, .pinned], laidTests := true, laidLooks := .later }
def ReplyReadsUptoCardSaid : Prop := Claim7.holds Tryz.pinned (.plain (OpenSpec.upto replyReadsSpec)) replyReadsUptoCard

/-- THE SECOND FORM's CARD OF 'rosterlaw10.ReplyBases'. -/
def replyBasesUptoCard : Claim7 := { stood := { row := replyBasesUptoRow, standIns := [], harness := (true, "769b07fbe026a269a7d53002f42a1243d5c18f66354e6569a035951d6beedc26"), looks := false }, kinds := [], alts := [], laidByText := true, laidKinds := [.data, .pinned], laidTests := true, laidLooks := .later }
def ReplyBasesUptoCardSaid : Prop := Claim7.holds Tryz.pinned (.plain (OpenSpec.upto replyBasesSpec)) replyBasesUptoCard

/-- THE SECOND FORM's CARD OF 'rosterlaw10.ReplyOrder'. -/
def replyOrderUptoCard : Claim7 := { stood := { row := replyOrderUptoRow, standIns := [], harness := (true, "769b07fbe026a269a7d53002f42a1243d5c18f66354e6569a035951d6beedc26"), looks := false }, kinds := [], alts := [], laidByText := true, laidKinds := [.data, .pinned], laidTests := true, laidLooks := .later }
def ReplyOrderUptoCardSaid : Prop := Claim7.holds Tryz.pinned (.plain (OpenSpec.upto replyOrderSpec)) replyOrderUptoCard

/-- THE SECOND FORM's CARD OF 'rosterlaw10.ReplyMore'. -/
def replyMoreUptoCard : Claim7 := { stood := { row := replyMoreUptoRow, standIns := [], harness := (true, "769b07fbe026a269a7d53002f42a1243d5c18f66354e6569a035951d6beedc26"), looks := false }, kinds := [], alts := [], laidByText := true, laidKinds := [.data, .pinned], laidTests := true, laidLooks := .later }
def ReplyMoreUptoCardSaid : Prop := Claim7.holds Tryz.pinned (.plain (OpenSpec.upto replyMoreSpec)) replyMoreUptoCard
end Rows
end Go.Proofs.YtgkilllbkljibaaGreatDoor
