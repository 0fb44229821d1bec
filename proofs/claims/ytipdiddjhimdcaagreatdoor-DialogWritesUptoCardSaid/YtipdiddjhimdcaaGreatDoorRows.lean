/-
  NARROWER THAN 'FOR EVERY INPUT', by the rows' own cells (each row's printed sentence says how): DialogCounts: laid · DialogBegins: laid · DialogTakes: laid · DialogRises: laid · DialogLeads: laid · DialogWrites: laid · DialogEnds: laid.
  DERIVED. THE GIVEN ROWS OF THIS SEAT. 7 by the template 'for every input the law returns true; each argument reads behind the call as it read before'; 0 by the template 'total and deterministic' (their statements: YtipdiddjhimdcaaGreatDoorTotals.lean).
  GIVEN WITH THE SEED: the statements are not yours to turn. If you find one false, say at which input.
  Laid BY PROGRAM, IN A SANDBOX (cutbox-rows.mjs): the forced cells as the released guide's own fill.sh prints them over the translation 872029c21bc014ec… (all of the seat's roots in one cut). By AI agents, Wed Nov 11 2026. No macro, syntax, notation, axiom, sorry.
-/
import Derived.Test.YtipdiddjhimdcaaGreatDoorChecked
import GoSem.PinnedTables
import GoSem.Claim
import GoSem.ClaimJoined
import GoSem.ClaimMapViews
import Derived.JoinedTies
import Derived.KernelRfl
namespace Go.Proofs.YtipdiddjhimdcaaGreatDoor
/- THE CELL 'sum', in the pinned program and in every row, IS THE sha256 OF THE DUMP (.gsa) THAT YtipdiddjhimdcaaGreatDoorProg.lean LOADS. Nothing in Lean hashes anything: it is a label: what it is worth is what the hold of that sum in a sandbox is worth. -/
noncomputable def Tryz.pinned : Pinned := { name := "ytipdiddjhimdcaagreatdoor", sum := "872029c21bc014ec51fcf656f66d4b4eeecd4f61269b804a036e95a1a41c5e22", checked := Tryz.checked }
namespace Rows
def none {H : Type} : Left H := { results := [], args := [] }

/- WHAT THE LISTED PACKAGE-LEVEL VARIABLES READ AS WHEN THE CALL BEGINS. Each datum BY PROGRAM (the guide's laid-datum.mjs) off the statement by which the dump's own 'gosem.cut.vars' lays the variable. In a bare row this is a premise. The card (YtipdiddjhimdcaaGreatDoorCards.lean) ties it to the program's text. -/
def laid_unicode_utf8_acceptRanges {H : Type} : DataW H := .agg [.agg [.lit (.int .u8 128), .lit (.int .u8 191)], .agg [.lit (.int .u8 160), .lit (.int .u8 191)], .agg [.lit (.int .u8 128), .lit (.int .u8 159)], .agg [.lit (.int .u8 144), .lit (.int .u8 191)], .agg [.lit (.int .u8 128), .lit (.int .u8 143)], .agg [.lit (.int .u8 0), .lit (.int .u8 0)], .agg [.lit (.int .u8 0), .lit (.int .u8 0)], .agg [.lit (.int .u8 0), .lit (.int .u8 0)], .agg [.lit (.int .u8 0), .lit (.int .u8 0)], .agg [.lit (.int .u8 0), .lit (.int .u8 0)], .agg [.lit (.int .u8 0), .lit (.int .u8 0)], .agg [.lit (.int .u8 0), .lit (.int .u8 0)], .agg [.lit (.int .u8 0), .lit (.int .u8 0)], .agg [.lit (.int .u8 0), .lit (.int .u8 0)], .agg [.lit (.int .u8 0), .lit (.int .u8 0)], .agg [.lit (.int .u8 0), .lit (.int .u8 0)]]
/-- One of Go's own tables, pinned by name: the form's constant. -/
def laid_unicode_utf8_first : DataW Unit := Go.Pinned.utf8First

/-- 'rosterlaw18.DialogCounts': WHATEVER THE INPUT: true; the input reads as it did. -/
def dialogCountsSpec : ChangeSpec := { name := "dialogCounts", fn := fun _ => fun
  | [d1, d2, d3] => { results := [.lit (.bool true)], args := [d1, d2, d3] }
  | _ => none }
def dialogCountsRow : OpenClaim := { program := "ytipdiddjhimdcaagreatdoor", sum := "872029c21bc014ec51fcf656f66d4b4eeecd4f61269b804a036e95a1a41c5e22", func := "roster/rosterlaw18.DialogCounts", spec := "dialogCounts", inPlace := ["internal/bytealg.CountString", "internal/bytealg.IndexByteString", "internal/bytealg.IndexString", "internal/abi.NoEscape", "internal/bytealg.MakeNoZero"], unfollowed := true, recurses := true, named := ["unicode/utf8.first", "unicode/utf8.acceptRanges", "internal/bytealg.MaxLen"], apart := false, laid := [("unicode/utf8.acceptRanges", laid_unicode_utf8_acceptRanges), ("unicode/utf8.first", laid_unicode_utf8_first)] }
def DialogCountsSaid : Prop := dialogCountsRow.holds Tryz.pinned (OpenSpec.ofChange dialogCountsSpec)

/-- ITS FALSE NEIGHBOUR: 'it returns false'. Refute it at one input. -/
def dialogCountsWrong : ChangeSpec := { name := "dialogCounts", fn := fun _ => fun
  | [d1, d2, d3] => { results := [.lit (.bool false)], args := [d1, d2, d3] }
  | _ => none }
def DialogCountsWrongFalsely : Prop := dialogCountsRow.holds Tryz.pinned (OpenSpec.ofChange dialogCountsWrong)

/-- 'rosterlaw18.DialogBegins': WHATEVER THE INPUT: true; the input reads as it did. -/
def dialogBeginsSpec : ChangeSpec := { name := "dialogBegins", fn := fun _ => fun
  | [d1, d2] => { results := [.lit (.bool true)], args := [d1, d2] }
  | _ => none }
def dialogBeginsRow : OpenClaim := { program := "ytipdiddjhimdcaagreatdoor", sum := "872029c21bc014ec51fcf656f66d4b4eeecd4f61269b804a036e95a1a41c5e22", func := "roster/rosterlaw18.DialogBegins", spec := "dialogBegins", inPlace := ["internal/bytealg.CountString", "internal/bytealg.IndexByteString", "internal/bytealg.IndexString", "internal/abi.NoEscape", "internal/bytealg.MakeNoZero"], unfollowed := true, recurses := true, named := ["unicode/utf8.first", "unicode/utf8.acceptRanges", "internal/bytealg.MaxLen"], apart := false, laid := [("unicode/utf8.acceptRanges", laid_unicode_utf8_acceptRanges), ("unicode/utf8.first", laid_unicode_utf8_first)] }
def DialogBeginsSaid : Prop := dialogBeginsRow.holds Tryz.pinned (OpenSpec.ofChange dialogBeginsSpec)

/-- ITS FALSE NEIGHBOUR: 'it returns false'. Refute it at one input. -/
def dialogBeginsWrong : ChangeSpec := { name := "dialogBegins", fn := fun _ => fun
  | [d1, d2] => { results := [.lit (.bool false)], args := [d1, d2] }
  | _ => none }
def DialogBeginsWrongFalsely : Prop := dialogBeginsRow.holds Tryz.pinned (OpenSpec.ofChange dialogBeginsWrong)

/-- 'rosterlaw18.DialogTakes': WHATEVER THE INPUT: true; the input reads as it did. -/
def dialogTakesSpec : ChangeSpec := { name := "dialogTakes", fn := fun _ => fun
  | [d1, d2] => { results := [.lit (.bool true)], args := [d1, d2] }
  | _ => none }
def dialogTakesRow : OpenClaim := { program := "ytipdiddjhimdcaagreatdoor", sum := "872029c21bc014ec51fcf656f66d4b4eeecd4f61269b804a036e95a1a41c5e22", func := "roster/rosterlaw18.DialogTakes", spec := "dialogTakes", inPlace := ["internal/bytealg.CountString", "internal/bytealg.IndexByteString", "internal/bytealg.IndexString", "internal/abi.NoEscape", "internal/bytealg.MakeNoZero"], unfollowed := true, recurses := true, named := ["unicode/utf8.first", "unicode/utf8.acceptRanges", "internal/bytealg.MaxLen"], apart := false, laid := [("unicode/utf8.acceptRanges", laid_unicode_utf8_acceptRanges), ("unicode/utf8.first", laid_unicode_utf8_first)] }
def DialogTakesSaid : Prop := dialogTakesRow.holds Tryz.pinned (OpenSpec.ofChange dialogTakesSpec)

/-- ITS FALSE NEIGHBOUR: 'it returns false'. Refute it at one input. -/
def dialogTakesWrong : ChangeSpec := { name := "dialogTakes", fn := fun _ => fun
  | [d1, d2] => { results := [.lit (.bool false)], args := [d1, d2] }
  | _ => none }
def DialogTakesWrongFalsely : Prop := dialogTakesRow.holds Tryz.pinned (OpenSpec.ofChange dialogTakesWrong)

/-- 'rosterlaw18.DialogRises': WHATEVER THE INPUT: true; the input reads as it did. -/
def dialogRisesSpec : ChangeSpec := { name := "dialogRises", fn := fun _ => fun
  | [d1, d2] => { results := [.lit (.bool true)], args := [d1, d2] }
  | _ => none }
def dialogRisesRow : OpenClaim := { program := "ytipdiddjhimdcaagreatdoor", sum := "872029c21bc014ec51fcf656f66d4b4eeecd4f61269b804a036e95a1a41c5e22", func := "roster/rosterlaw18.DialogRises", spec := "dialogRises", inPlace := ["internal/bytealg.CountString", "internal/bytealg.IndexByteString", "internal/bytealg.IndexString", "internal/abi.NoEscape", "internal/bytealg.MakeNoZero"], unfollowed := true, recurses := true, named := ["unicode/utf8.first", "unicode/utf8.acceptRanges", "internal/bytealg.MaxLen"], apart := false, laid := [("unicode/utf8.acceptRanges", laid_unicode_utf8_acceptRanges), ("unicode/utf8.first", laid_unicode_utf8_first)] }
def DialogRisesSaid : Prop := dialogRisesRow.holds Tryz.pinned (OpenSpec.ofChange dialogRisesSpec)

/-- ITS FALSE NEIGHBOUR: 'it returns false'. Refute it at one input. -/
def dialogRisesWrong : ChangeSpec := { name := "dialogRises", fn := fun _ => fun
  | [d1, d2] => { results := [.lit (.bool false)], args := [d1, d2] }
  | _ => none }
def DialogRisesWrongFalsely : Prop := dialogRisesRow.holds Tryz.pinned (OpenSpec.ofChange dialogRisesWrong)

/-- 'rosterlaw18.DialogLeads': WHATEVER THE INPUT: true; the input reads as it did. -/
def dialogLeadsSpec : ChangeSpec := { name := "dialogLeads", fn := fun _ => fun
  | [d1, d2] => { results := [.lit (.bool true)], args := [d1, d2] }
  | _ => none }
def dialogLeadsRow : OpenClaim := { program := "ytipdiddjhimdcaagreatdoor", sum := "872029c21bc014ec51fcf656f66d4b4eeecd4f61269b804a036e95a1a41c5e22", func := "roster/rosterlaw18.DialogLeads", spec := "dialogLeads", inPlace := ["internal/bytealg.CountString", "internal/bytealg.IndexByteString", "internal/bytealg.IndexString", "internal/abi.NoEscape", "internal/bytealg.MakeNoZero"], unfollowed := true, recurses := true, named := ["unicode/utf8.first", "unicode/utf8.acceptRanges", "internal/bytealg.MaxLen"], apart := false, laid := [("unicode/utf8.acceptRanges", laid_unicode_utf8_acceptRanges), ("unicode/utf8.first", laid_unicode_utf8_first)] }
def DialogLeadsSaid : Prop := dialogLeadsRow.holds Tryz.pinned (OpenSpec.ofChange dialogLeadsSpec)

/-- ITS FALSE NEIGHBOUR: 'it returns false'. Refute it at one input. -/
def dialogLeadsWrong : ChangeSpec := { name := "dialogLeads", fn := fun _ => fun
  | [d1, d2] => { results := [.lit (.bool false)], args := [d1, d2] }
  | _ => none }
def DialogLeadsWrongFalsely : Prop := dialogLeadsRow.holds Tryz.pinned (OpenSpec.ofChange dialogLeadsWrong)

/-- 'rosterlaw18.DialogWrites': WHATEVER THE INPUT: true; the input reads as it did. -/
def dialogWritesSpec : ChangeSpec := { name := "dialogWrites", fn := fun _ => fun
  | [d1, d2, d3, d4, d5] => { results := [.lit (.bool true)], args := [d1, d2, d3, d4, d5] }
  | _ => none }
def dialogWritesRow : OpenClaim := { program := "ytipdiddjhimdcaagreatdoor", sum := "872029c21bc014ec51fcf656f66d4b4eeecd4f61269b804a036e95a1a41c5e22", func := "roster/rosterlaw18.DialogWrites", spec := "dialogWrites", inPlace := ["internal/bytealg.CountString", "internal/bytealg.IndexByteString", "internal/bytealg.IndexString", "internal/abi.NoEscape", "internal/bytealg.MakeNoZero"], unfollowed := true, recurses := true, named := ["unicode/utf8.first", "unicode/utf8.acceptRanges", "internal/bytealg.MaxLen"], apart := false, laid := [("unicode/utf8.acceptRanges", laid_unicode_utf8_acceptRanges), ("unicode/utf8.first", laid_unicode_utf8_first)] }
def DialogWritesSaid : Prop := dialogWritesRow.holds Tryz.pinned (OpenSpec.ofChange dialogWritesSpec)

/-- ITS FALSE NEIGHBOUR: 'it returns false'. Refute it at one input. -/
def dialogWritesWrong : ChangeSpec := { name := "dialogWrites", fn := fun _ => fun
  | [d1, d2, d3, d4, d5] => { results := [.lit (.bool false)], args := [d1, d2, d3, d4, d5] }
  | _ => none }
def DialogWritesWrongFalsely : Prop := dialogWritesRow.holds Tryz.pinned (OpenSpec.ofChange dialogWritesWrong)

/-- 'rosterlaw18.DialogEnds': WHATEVER THE INPUT: true; the input reads as it did. -/
def dialogEndsSpec : ChangeSpec := { name := "dialogEnds", fn := fun _ => fun
  | [d] => { results := [.lit (.bool true)], args := [d] }
  | _ => none }
def dialogEndsRow : OpenClaim := { program := "ytipdiddjhimdcaagreatdoor", sum := "872029c21bc014ec51fcf656f66d4b4eeecd4f61269b804a036e95a1a41c5e22", func := "roster/rosterlaw18.DialogEnds", spec := "dialogEnds", inPlace := ["internal/bytealg.CountString", "internal/bytealg.IndexByteString", "internal/bytealg.IndexString", "internal/abi.NoEscape", "internal/bytealg.MakeNoZero"], unfollowed := true, recurses := true, named := ["unicode/utf8.first", "unicode/utf8.acceptRanges", "internal/bytealg.MaxLen"], apart := false, laid := [("unicode/utf8.acceptRanges", laid_unicode_utf8_acceptRanges), ("unicode/utf8.first", laid_unicode_utf8_first)] }
def DialogEndsSaid : Prop := dialogEndsRow.holds Tryz.pinned (OpenSpec.ofChange dialogEndsSpec)

/-- ITS FALSE NEIGHBOUR: 'it returns false'. Refute it at one input. -/
def dialogEndsWrong : ChangeSpec := { name := "dialogEnds", fn := fun _ => fun
  | [d] => { results := [.lit (.bool false)], args := [d] }
  | _ => none }
def DialogEndsWrongFalsely : Prop := dialogEndsRow.holds Tryz.pinned (OpenSpec.ofChange dialogEndsWrong)

/- THE SECOND FORM. 'bulk': how many values and letters a reading holds, each counted each time it is reached (what is shared counts as often as it is met; a slice's spare places count too). A statement '..UptoSaid' is the law's where the arguments, and the package variables that the reading takes, are together of bulk at most 1048576: NARROWER than '..Said'. Prove '..Said' where nothing that the law and all that it calls make is longer than what came in: it says more and counts as full. Else prove '..UptoSaid'. A law counts once. -/
mutual
def uptoBulk {H : Type} : DataW H → Nat
  | .lit (.string bytes) => bytes.length + 1
  | .lit _ => 1
  | .nil => 1
  | .ptr d => uptoBulk d + 1
  | .slice elems spare => uptoBulkAll elems + uptoBulkAll spare + 1
  | .agg parts => uptoBulkAll parts + 1
  | .iface _ d => uptoBulk d + 1
  | .map entries => uptoBulkEntries entries + 1
  | .held _ => 1
def uptoBulkAll {H : Type} : List (DataW H) → Nat
  | [] => 0
  | d :: r => uptoBulk d + uptoBulkAll r
def uptoBulkEntries {H : Type} : List (Lit × DataW H) → Nat
  | [] => 0
  | x :: r => uptoBulkEntry x + uptoBulkEntries r
def uptoBulkEntry {H : Type} : Lit × DataW H → Nat
  | (.string bytes, d) => bytes.length + uptoBulk d + 1
  | (_, d) => uptoBulk d + 1
 end
def uptoSmall : (H : Type) → List (DataW H) → Bool := fun _ ds => decide (uptoBulkAll ds ≤ 1048576)
def OpenSpec.upto (s : _root_.Go.ChangeSpec) : _root_.Go.OpenSpec := { _root_.Go.OpenSpec.ofChange s with cond := some uptoSmall }

/-- 'rosterlaw18.DialogCounts', WHERE WHAT IT READS IS OF BULK AT MOST 1048576: true; the input reads as it did. -/
def dialogCountsUptoRow : OpenClaim := { program := "ytipdiddjhimdcaagreatdoor", sum := "872029c21bc014ec51fcf656f66d4b4eeecd4f61269b804a036e95a1a41c5e22", func := "roster/rosterlaw18.DialogCounts", spec := "dialogCounts", inPlace := ["internal/bytealg.CountString", "internal/bytealg.IndexByteString", "internal/bytealg.IndexString", "internal/abi.NoEscape", "internal/bytealg.MakeNoZero"], unfollowed := true, recurses := true, named := ["unicode/utf8.first", "unicode/utf8.acceptRanges", "internal/bytealg.MaxLen"], apart := false, laid := [("unicode/utf8.acceptRanges", laid_unicode_utf8_acceptRanges), ("unicode/utf8.first", laid_unicode_utf8_first)], narrowed := true }
def DialogCountsUptoSaid : Prop := dialogCountsUptoRow.holds Tryz.pinned (OpenSpec.upto dialogCountsSpec)

/-- 'rosterlaw18.DialogBegins', WHERE WHAT IT READS IS OF BULK AT MOST 1048576: true; the input reads as it did. -/
def dialogBeginsUptoRow : OpenClaim := { program := "ytipdiddjhimdcaagreatdoor", sum := "872029c21bc014ec51fcf656f66d4b4eeecd4f61269b804a036e95a1a41c5e22", func := "roster/rosterlaw18.DialogBegins", spec := "dialogBegins", inPlace := ["internal/bytealg.CountString", "internal/bytealg.IndexByteString", "internal/bytealg.IndexString", "internal/abi.NoEscape", "internal/bytealg.MakeNoZero"], unfollowed := true, recurses := true, named := ["unicode/utf8.first", "unicode/utf8.acceptRanges", "internal/bytealg.MaxLen"], apart := false, laid := [("unicode/utf8.acceptRanges", laid_unicode_utf8_acceptRanges), ("unicode/utf8.first", laid_unicode_utf8_first)], narrowed := true }
def DialogBeginsUptoSaid : Prop := dialogBeginsUptoRow.holds Tryz.pinned (OpenSpec.upto dialogBeginsSpec)

/-- 'rosterlaw18.DialogTakes', WHERE WHAT IT READS IS OF BULK AT MOST 1048576: true; the input reads as it did. -/
def dialogTakesUptoRow : OpenClaim := { program := "ytipdiddjhimdcaagreatdoor", sum := "872029c21bc014ec51fcf656f66d4b4eeecd4f61269b804a036e95a1a41c5e22", func := "roster/rosterlaw18.DialogTakes", spec := "dialogTakes", inPlace := ["internal/bytealg.CountString", "internal/bytealg.IndexByteString", "internal/bytealg.IndexString", "internal/abi.NoEscape", "internal/bytealg.MakeNoZero"], unfollowed := true, recurses := true, named := ["unicode/utf8.first", "unicode/utf8.acceptRanges", "internal/bytealg.MaxLen"], apart := false, laid := [("unicode/utf8.acceptRanges", laid_unicode_utf8_acceptRanges), ("unicode/utf8.first", laid_unicode_utf8_first)], narrowed := true }
def DialogTakesUptoSaid : Prop := dialogTakesUptoRow.holds Tryz.pinned (OpenSpec.upto dialogTakesSpec)

/-- 'rosterlaw18.DialogRises', WHERE WHAT IT READS IS OF BULK AT MOST 1048576: true; the input reads as it did. -/
def dialogRisesUptoRow : OpenClaim := { program := "ytipdiddjhimdcaagreatdoor", sum := "872029c21bc014ec51fcf656f66d4b4eeecd4f61269b804a036e95a1a41c5e22", func := "roster/rosterlaw18.DialogRises", spec := "dialogRises", inPlace := ["internal/bytealg.CountString", "internal/bytealg.IndexByteString", "internal/bytealg.IndexString", "internal/abi.NoEscape", "internal/bytealg.MakeNoZero"], unfollowed := true, recurses := true, named := ["unicode/utf8.first", "unicode/utf8.acceptRanges", "internal/bytealg.MaxLen"], apart := false, laid := [("unicode/utf8.acceptRanges", laid_unicode_utf8_acceptRanges), ("unicode/utf8.first", laid_unicode_utf8_first)], narrowed := true }
def DialogRisesUptoSaid : Prop := dialogRisesUptoRow.holds Tryz.pinned (OpenSpec.upto dialogRisesSpec)

/-- 'rosterlaw18.DialogLeads', WHERE WHAT IT READS IS OF BULK AT MOST 1048576: true; the input reads as it did. -/
def dialogLeadsUptoRow : OpenClaim := { program := "ytipdiddjhimdcaagreatdoor", sum := "872029c21bc014ec51fcf656f66d4b4eeecd4f61269b804a036e95a1a41c5e22", func := "roster/rosterlaw18.DialogLeads", spec := "dialogLeads", inPlace := ["internal/bytealg.CountString", "internal/bytealg.IndexByteString", "internal/bytealg.IndexString", "internal/abi.NoEscape", "internal/bytealg.MakeNoZero"], unfollowed := true, recurses := true, named := ["unicode/utf8.first", "unicode/utf8.acceptRanges", "internal/bytealg.MaxLen"], apart := false, laid := [("unicode/utf8.acceptRanges", laid_unicode_utf8_acceptRanges), ("unicode/utf8.first", laid_unicode_utf8_first)], narrowed := true }
def DialogLeadsUptoSaid : Prop := dialogLeadsUptoRow.holds Tryz.pinned (OpenSpec.upto dialogLeadsSpec)

/-- 'rosterlaw18.DialogWrites', WHERE WHAT IT READS IS OF BULK AT MOST 1048576: true; the input reads as it did. -/
def dialogWritesUptoRow : OpenClaim := { program := "ytipdiddjhimdcaagreatdoor", sum := "872029c21bc014ec51fcf656f66d4b4eeecd4f61269b804a036e95a1a41c5e22", func := "roster/rosterlaw18.DialogWrites", spec := "dialogWrites", inPlace := ["internal/bytealg.CountString", "internal/bytealg.IndexByteString", "internal/bytealg.IndexString", "internal/abi.NoEscape", "internal/bytealg.MakeNoZero"], unfollowed := true, recurses := true, named := ["unicode/utf8.first", "unicode/utf8.acceptRanges", "internal/bytealg.MaxLen"], apart := false, laid := [("unicode/utf8.acceptRanges", laid_unicode_utf8_acceptRanges), ("unicode/utf8.first", laid_unicode_utf8_first)], narrowed := true }
def DialogWritesUptoSaid : Prop := dialogWritesUptoRow.holds Tryz.pinned (OpenSpec.upto dialogWritesSpec)

/-- 'rosterlaw18.DialogEnds', WHERE WHAT IT READS IS OF BULK AT MOST 1048576: true; the input reads as it did. -/
def dialogEndsUptoRow : OpenClaim := { program := "ytipdiddjhimdcaagreatdoor", sum := "872029c21bc014ec51fcf656f66d4b4eeecd4f61269b804a036e95a1a41c5e22", func := "roster/rosterlaw18.DialogEnds", spec := "dialogEnds", inPlace := ["internal/bytealg.CountString", "internal/bytealg.IndexByteString", "internal/bytealg.IndexString", "internal/abi.NoEscape", "internal/bytealg.MakeNoZero"], unfollowed := true, recurses := true, named := ["unicode/utf8.first", "unicode/utf8.acceptRanges", "internal/bytealg.MaxLen"], apart := false, laid := [("unicode/utf8.acceptRanges", laid_unicode_utf8_acceptRanges), ("unicode/utf8.first", laid_unicode_utf8_first)], narrowed := true }
def DialogEndsUptoSaid : Prop := dialogEndsUptoRow.holds Tryz.pinned (OpenSpec.upto dialogEndsSpec)

end Rows
end Go.Proofs.YtipdiddjhimdcaaGreatDoor
