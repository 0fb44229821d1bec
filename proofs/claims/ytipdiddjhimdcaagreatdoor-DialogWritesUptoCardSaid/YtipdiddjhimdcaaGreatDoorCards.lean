/-
  DERIVED. GIVEN WITH THE SEED: THE CARDS: each row of YtipdiddjhimdcaaGreatDoorRows.lean that lists a variable, with what it lists TIED to the program's text (the seventh form; the later family's looks); each row that meets fmt, with fmt's text TOLD by the authors' own Lean function (tested against real Go, not proved from fmt's source: count such statements apart). THE CARD IS WHAT COUNTS. Prove the row's statement (the work); the ties are given (YtipdiddjhimdcaaGreatDoorTie.lean); close each card by the builder's one call (the guide's Derived/Test/ToyasCard.lean, 'card_holds'). Laid BY PROGRAM, IN A SANDBOX (cutbox-door.mjs). By AI agents, Wed Nov 11 2026. No macro, syntax, notation, axiom, sorry.
-/
import Derived.Test.YtipdiddjhimdcaaGreatDoorRows
import GoSem.ClaimSeven
namespace Go.Proofs.YtipdiddjhimdcaaGreatDoor
namespace Rows

/-- THE TIED CARD OF 'rosterlaw18.DialogCounts'. -/
def dialogCountsCard : Claim7 := { stood := { row := dialogCountsRow, standIns := [], harness := (true, "a3405350d8838a98024fe16b29e263a5ffe817300afc9d930cc926afb3a82e96"), looks := false }, kinds := [], alts := [], laidByText := true, laidKinds := [.data, .pinned], laidTests := true, laidLooks := .later }
def DialogCountsCardSaid : Prop := Claim7.holds Tryz.pinned (.plain (OpenSpec.ofChange dialogCountsSpec)) dialogCountsCard

/-- THE TIED CARD OF 'rosterlaw18.DialogBegins'. -/
def dialogBeginsCard : Claim7 := { stood := { row := dialogBeginsRow, standIns := [], harness := (true, "a3405350d8838a98024fe16b29e263a5ffe817300afc9d930cc926afb3a82e96"), looks := false }, kinds := [], alts := [], laidByText := true, laidKinds := [.data, .pinned], laidTests := true, laidLooks := .later }
def DialogBeginsCardSaid : Prop := Claim7.holds Tryz.pinned (.plain (OpenSpec.ofChange dialogBeginsSpec)) dialogBeginsCard

/-- THE TIED CARD OF 'rosterlaw18.DialogTakes'. -/
def dialogTakesCard : Claim7 := { stood := { row := dialogTakesRow, standIns := [], harness := (true, "a3405350d8838a98024fe16b29e263a5ffe817300afc9d930cc926afb3a82e96"), looks := false }, kinds := [], alts := [], laidByText := true, laidKinds := [.data, .pinned], laidTests := true, laidLooks := .later }
def DialogTakesCardSaid : Prop := Claim7.holds Tryz.pinned (.plain (OpenSpec.ofChange dialogTakesSpec)) dialogTakesCard

/-- THE TIED CARD OF 'rosterlaw18.DialogRises'. -/
def dialogRisesCard : Claim7 := { stood := { row := dialogRisesRow, standIns := [], harness := (true, "a3405350d8838a98024fe16b29e263a5ffe817300afc9d930cc926afb3a82e96"), looks := false }, kinds := [], alts := [], laidByText := true, laidKinds := [.data, .pinned], laidTests := true, laidLooks := .later }
def DialogRisesCardSaid : Prop := Claim7.holds Tryz.pinned (.plain (OpenSpec.ofChange dialogRisesSpec)) dialogRisesCard

/-- THE TIED CARD OF 'rosterlaw18.DialogLeads'. -/
def dialogLeadsCard : Claim7 := { stood := { row := dialogLeadsRow, standIns := [], harness := (true, "a3405350d8838a98024fe16b29e263a5ffe817300afc9d930cc926afb3a82e96"), looks := false }, kinds := [], alts := [], laidByText := true, laidKinds := [.data, .pinned], laidTests := true, laidLooks := .later }
def DialogLeadsCardSaid : Prop := Claim7.holds Tryz.pinned (.plain (OpenSpec.ofChange dialogLeadsSpec)) dialogLeadsCard

/-- THE TIED CARD OF 'rosterlaw18.DialogWrites'. -/
def dialogWritesCard : Claim7 := { stood := { row := dialogWritesRow, standIns := [], harness := (true, "a3405350d8838a98024fe16b29e263a5ffe817300afc9d930cc926afb3a82e96"), looks := false }, kinds := [], alts := [], laidByText := true, laidKinds := [.data, .pinned], laidTests := true, laidLooks := .later }
def DialogWritesCardSaid : Prop := Claim7.holds Tryz.pinned (.plain (OpenSpec.ofChange dialogWritesSpec)) dialogWritesCard

/-- THE TIED CARD OF 'rosterlaw18.DialogEnds'. -/
def dialogEndsCard : Claim7 := { stood := { row := dialogEndsRow, standIns := [], harness := (true, "a3405350d8838a98024fe16b29e263a5ffe817300afc9d930cc926afb3a82e96"), looks := false }, kinds := [], alts := [], laidByText := true, laidKinds := [.data, .pinned], laidTests := true, laidLooks := .later }
def DialogEndsCardSaid : Prop := Claim7.holds Tryz.pinned (.plain (OpenSpec.ofChange dialogEndsSpec)) dialogEndsCard

/-- THE SECOND FORM's CARD OF 'rosterlaw18.DialogCounts'. -/
def dialogCountsUptoCard : Claim7 := { stood := { row := dialogCountsUptoRow, standIns := [], harness := (true, "a3405350d8838a98024fe16b29e263a5ffe817300afc9d930cc926afb3a82e96"), looks := false }, kinds := [], alts := [], laidByText := true, laidKinds := [.data, .pinned], laidTests := true, laidLooks := .later }
def DialogCountsUptoCardSaid : Prop := Claim7.holds Tryz.pinned (.plain (OpenSpec.upto dialogCountsSpec)) dialogCountsUptoCard

/-- THE SECOND FORM's CARD OF 'rosterlaw18.DialogBegins'. -/
def dialogBeginsUptoCard : Claim7 := { stood := { row := dialogBeginsUptoRow, standIns := [], harness := (true, "a3405350d8838a98024fe16b29e263a5ffe817300afc9d930cc926afb3a82e96"), looks := false }, kinds := [], alts := [], laidByText := true, laidKinds := [.data, .pinned], laidTests := true, laidLooks := .later }
def DialogBeginsUptoCardSaid : Prop := Claim7.holds Tryz.pinned (.plain (OpenSpec.upto dialogBeginsSpec)) dialogBeginsUptoCard

/-- THE SECOND FORM's CARD OF 'rosterlaw18.DialogTakes'. -/
def dialogTakesUptoCard : Claim7 := { stood := { row := dialogTakesUptoRow, standIns := [], harness := (true, "a3405350d8838a98024fe16b29e263a5ffe817300afc9d930cc926afb3a82e96"), looks := false }, kinds := [], alts := [], laidByText := true, laidKinds := [.data, .pinned], laidTests := true, laidLooks := .later }
def DialogTakesUptoCardSaid : Prop := Claim7.holds Tryz.pinned (.plain (OpenSpec.upto dialogTakesSpec)) dialogTakesUptoCard

/-- THE SECOND FORM's CARD OF 'rosterlaw18.DialogRises'. -/
def dialogRisesUptoCard : Claim7 := { stood := { row := dialogRisesUptoRow, standIns := [], harness := (true, "a3405350d8838a98024fe16b29e263a5ffe817300afc9d930cc926afb3a82e96"), looks := false }, kinds := [], alts := [], laidByText := true, laidKinds := [.data, .pinned], laidTests := true, laidLooks := .later }
def DialogRisesUptoCardSaid : Prop := Claim7.holds Tryz.pinned (.plain (OpenSpec.upto dialogRisesSpec)) dialogRisesUptoCard

/-- THE SECOND FORM's CARD OF 'rosterlaw18.DialogLeads'. -/
def dialogLeadsUptoCard : Claim7 := { stood := { row := dialogLeadsUptoRow, standIns := [], harness := (true, "a3405350d8838a98024fe16b29e263a5ffe817300afc9d930cc926afb3a82e96"), looks := false }, kinds := [], alts := [], laidByText := true, laidKinds := [.data, .pinned], laidTests := true, laidLooks := .later }
def DialogLeadsUptoCardSaid : Prop := Claim7.holds Tryz.pinned (.plain (OpenSpec.upto dialogLeadsSpec)) dialogLeadsUptoCard

/-- THE SECOND FORM's CARD OF 'rosterlaw18.DialogWrites'. -/
def dialogWritesUptoCard : Claim7 := { stood := { row := dialogWritesUptoRow, standIns := [], harness := (true, "a3405350d8838a98024fe16b29e263a5ffe817300afc9d930cc926afb3a82e96"), looks := false }, kinds := [], alts := [], laidByText := true, laidKinds := [.data, .pinned], laidTests := true, laidLooks := .later }
def DialogWritesUptoCardSaid : Prop := Claim7.holds Tryz.pinned (.plain (OpenSpec.upto dialogWritesSpec)) dialogWritesUptoCard

/-- THE SECOND FORM's CARD OF 'rosterlaw18.DialogEnds'. -/
def dialogEndsUptoCard : Claim7 := { stood := { row := dialogEndsUptoRow, standIns := [], harness := (true, "a3405350d8838a98024fe16b29e263a5ffe817300afc9d930cc926afb3a82e96"), looks := false }, kinds := [], alts := [], laidByText := true, laidKinds := [.data, .pinned], laidTests := true, laidLooks := .later }
def DialogEndsUptoCardSaid : Prop := Claim7.holds Tryz.pinned (.plain (OpenSpec.upto dialogEndsSpec)) dialogEndsUptoCard
end Rows
end Go.Proofs.YtipdiddjhimdcaaGreatDoor
