/-
  NARROWER THAN 'FOR EVERY INPUT', by the rows' own cells (each row's printed sentence says how): HeadTypes: laid · HeadTakes: laid · HeadTimes: laid · HeadStates: laid · HeadSeqs: laid · HeadEvents: laid · HeadOnce: laid · HeadBack: laid.
  DERIVED. THE GIVEN ROWS OF THIS SEAT. 8 by the template 'for every input the law returns true; each argument reads behind the call as it read before'; 0 by the template 'total and deterministic' (their statements: YteiafgoigfehgaaDoorTotals.lean).
  GIVEN WITH THE SEED: the statements are not yours to turn. If you find one false, say at which input.
  Laid BY PROGRAM, IN A SANDBOX (cutbox-rows.mjs): the forced cells as the released guide's own fill.sh prints them over the translation 107eefd27384b2fa… (all of the seat's roots in one cut). By AI agents, Wed Nov 11 2026. No macro, syntax, notation, axiom, sorry.
-/
import Derived.Test.YteiafgoigfehgaaDoorChecked
import GoSem.PinnedTables
import GoSem.Claim
import GoSem.ClaimJoined
import GoSem.ClaimMapViews
import Derived.JoinedTies
import Derived.KernelRfl
namespace Go.Proofs.YteiafgoigfehgaaDoor
/- THE CELL 'sum', in the pinned program and in every row, IS THE sha256 OF THE DUMP (.gsa) THAT YteiafgoigfehgaaDoorProg.lean LOADS. Nothing in Lean hashes anything: it is a label: what it is worth is what the hold of that sum in a sandbox is worth. -/
noncomputable def Tryd.pinned : Pinned := { name := "yteiafgoigfehgaadoor", sum := "107eefd27384b2fad688e8ee5750a327dcf7d8a4c4732c798642bc340dd78836", checked := Tryd.checked }
namespace Rows
def none {H : Type} : Left H := { results := [], args := [] }

/- WHAT THE LISTED PACKAGE-LEVEL VARIABLES READ AS WHEN THE CALL BEGINS. Each datum BY PROGRAM (the guide's laid-datum.mjs) off the statement by which the dump's own 'gosem.cut.vars' lays the variable. In a bare row this is a premise. The card (YteiafgoigfehgaaDoorCards.lean) ties it to the program's text. -/
def laid_unicode_utf8_acceptRanges {H : Type} : DataW H := .agg [.agg [.lit (.int .u8 128), .lit (.int .u8 191)], .agg [.lit (.int .u8 160), .lit (.int .u8 191)], .agg [.lit (.int .u8 128), .lit (.int .u8 159)], .agg [.lit (.int .u8 144), .lit (.int .u8 191)], .agg [.lit (.int .u8 128), .lit (.int .u8 143)], .agg [.lit (.int .u8 0), .lit (.int .u8 0)], .agg [.lit (.int .u8 0), .lit (.int .u8 0)], .agg [.lit (.int .u8 0), .lit (.int .u8 0)], .agg [.lit (.int .u8 0), .lit (.int .u8 0)], .agg [.lit (.int .u8 0), .lit (.int .u8 0)], .agg [.lit (.int .u8 0), .lit (.int .u8 0)], .agg [.lit (.int .u8 0), .lit (.int .u8 0)], .agg [.lit (.int .u8 0), .lit (.int .u8 0)], .agg [.lit (.int .u8 0), .lit (.int .u8 0)], .agg [.lit (.int .u8 0), .lit (.int .u8 0)], .agg [.lit (.int .u8 0), .lit (.int .u8 0)]]
/-- One of Go's own tables, pinned by name: the form's constant. -/
def laid_unicode_utf8_first : DataW Unit := Go.Pinned.utf8First

/-- 'rosterlaw08.HeadTypes': WHATEVER THE INPUT: true; the input reads as it did. -/
def headTypesSpec : ChangeSpec := { name := "headTypes", fn := fun _ => fun
  | [d1, d2] => { results := [.lit (.bool true)], args := [d1, d2] }
  | _ => none }
def headTypesRow : OpenClaim := { program := "yteiafgoigfehgaadoor", sum := "107eefd27384b2fad688e8ee5750a327dcf7d8a4c4732c798642bc340dd78836", func := "roster/rosterlaw08.HeadTypes", spec := "headTypes", inPlace := ["internal/bytealg.IndexByteString", "internal/bytealg.IndexString", "internal/bytealg.CountString", "internal/abi.NoEscape", "internal/bytealg.MakeNoZero"], named := ["internal/bytealg.MaxLen", "unicode/utf8.first", "unicode/utf8.acceptRanges"], apart := false, laid := [("unicode/utf8.acceptRanges", laid_unicode_utf8_acceptRanges), ("unicode/utf8.first", laid_unicode_utf8_first)] }
def HeadTypesSaid : Prop := headTypesRow.holds Tryd.pinned (OpenSpec.ofChange headTypesSpec)

/-- ITS FALSE NEIGHBOUR: 'it returns false'. Refute it at one input. -/
def headTypesWrong : ChangeSpec := { name := "headTypes", fn := fun _ => fun
  | [d1, d2] => { results := [.lit (.bool false)], args := [d1, d2] }
  | _ => none }
def HeadTypesWrongFalsely : Prop := headTypesRow.holds Tryd.pinned (OpenSpec.ofChange headTypesWrong)

/-- 'rosterlaw08.HeadTakes': WHATEVER THE INPUT: true; the input reads as it did. -/
def headTakesSpec : ChangeSpec := { name := "headTakes", fn := fun _ => fun
  | [d1, d2] => { results := [.lit (.bool true)], args := [d1, d2] }
  | _ => none }
def headTakesRow : OpenClaim := { program := "yteiafgoigfehgaadoor", sum := "107eefd27384b2fad688e8ee5750a327dcf7d8a4c4732c798642bc340dd78836", func := "roster/rosterlaw08.HeadTakes", spec := "headTakes", inPlace := ["internal/bytealg.IndexByteString", "internal/bytealg.IndexString", "internal/bytealg.CountString", "internal/abi.NoEscape", "internal/bytealg.MakeNoZero"], named := ["internal/bytealg.MaxLen", "unicode/utf8.first", "unicode/utf8.acceptRanges"], apart := false, laid := [("unicode/utf8.acceptRanges", laid_unicode_utf8_acceptRanges), ("unicode/utf8.first", laid_unicode_utf8_first)] }
def HeadTakesSaid : Prop := headTakesRow.holds Tryd.pinned (OpenSpec.ofChange headTakesSpec)

/-- ITS FALSE NEIGHBOUR: 'it returns false'. Refute it at one input. -/
def headTakesWrong : ChangeSpec := { name := "headTakes", fn := fun _ => fun
  | [d1, d2] => { results := [.lit (.bool false)], args := [d1, d2] }
  | _ => none }
def HeadTakesWrongFalsely : Prop := headTakesRow.holds Tryd.pinned (OpenSpec.ofChange headTakesWrong)

/-- 'rosterlaw08.HeadTimes': WHATEVER THE INPUT: true; the input reads as it did. -/
def headTimesSpec : ChangeSpec := { name := "headTimes", fn := fun _ => fun
  | [d1, d2, d3] => { results := [.lit (.bool true)], args := [d1, d2, d3] }
  | _ => none }
def headTimesRow : OpenClaim := { program := "yteiafgoigfehgaadoor", sum := "107eefd27384b2fad688e8ee5750a327dcf7d8a4c4732c798642bc340dd78836", func := "roster/rosterlaw08.HeadTimes", spec := "headTimes", inPlace := ["internal/bytealg.CountString", "internal/bytealg.IndexByteString", "internal/bytealg.IndexString", "internal/abi.NoEscape", "internal/bytealg.MakeNoZero"], named := ["internal/bytealg.MaxLen", "unicode/utf8.first", "unicode/utf8.acceptRanges"], apart := false, laid := [("unicode/utf8.acceptRanges", laid_unicode_utf8_acceptRanges), ("unicode/utf8.first", laid_unicode_utf8_first)] }
def HeadTimesSaid : Prop := headTimesRow.holds Tryd.pinned (OpenSpec.ofChange headTimesSpec)

/-- ITS FALSE NEIGHBOUR: 'it returns false'. Refute it at one input. -/
def headTimesWrong : ChangeSpec := { name := "headTimes", fn := fun _ => fun
  | [d1, d2, d3] => { results := [.lit (.bool false)], args := [d1, d2, d3] }
  | _ => none }
def HeadTimesWrongFalsely : Prop := headTimesRow.holds Tryd.pinned (OpenSpec.ofChange headTimesWrong)

/-- 'rosterlaw08.HeadStates': WHATEVER THE INPUT: true; the input reads as it did. -/
def headStatesSpec : ChangeSpec := { name := "headStates", fn := fun _ => fun
  | [d1, d2] => { results := [.lit (.bool true)], args := [d1, d2] }
  | _ => none }
def headStatesRow : OpenClaim := { program := "yteiafgoigfehgaadoor", sum := "107eefd27384b2fad688e8ee5750a327dcf7d8a4c4732c798642bc340dd78836", func := "roster/rosterlaw08.HeadStates", spec := "headStates", inPlace := ["internal/bytealg.CountString", "internal/bytealg.IndexByteString", "internal/bytealg.IndexString", "internal/abi.NoEscape", "internal/bytealg.MakeNoZero"], recurses := true, named := ["internal/bytealg.MaxLen", "unicode/utf8.first", "unicode/utf8.acceptRanges"], apart := false, laid := [("unicode/utf8.acceptRanges", laid_unicode_utf8_acceptRanges), ("unicode/utf8.first", laid_unicode_utf8_first)] }
def HeadStatesSaid : Prop := headStatesRow.holds Tryd.pinned (OpenSpec.ofChange headStatesSpec)

/-- ITS FALSE NEIGHBOUR: 'it returns false'. Refute it at one input. -/
def headStatesWrong : ChangeSpec := { name := "headStates", fn := fun _ => fun
  | [d1, d2] => { results := [.lit (.bool false)], args := [d1, d2] }
  | _ => none }
def HeadStatesWrongFalsely : Prop := headStatesRow.holds Tryd.pinned (OpenSpec.ofChange headStatesWrong)

/-- 'rosterlaw08.HeadSeqs': WHATEVER THE INPUT: true; the input reads as it did. -/
def headSeqsSpec : ChangeSpec := { name := "headSeqs", fn := fun _ => fun
  | [d1, d2] => { results := [.lit (.bool true)], args := [d1, d2] }
  | _ => none }
def headSeqsRow : OpenClaim := { program := "yteiafgoigfehgaadoor", sum := "107eefd27384b2fad688e8ee5750a327dcf7d8a4c4732c798642bc340dd78836", func := "roster/rosterlaw08.HeadSeqs", spec := "headSeqs", inPlace := ["internal/bytealg.CountString", "internal/bytealg.IndexByteString", "internal/bytealg.IndexString", "internal/abi.NoEscape", "internal/bytealg.MakeNoZero"], recurses := true, named := ["internal/bytealg.MaxLen", "unicode/utf8.first", "unicode/utf8.acceptRanges"], apart := false, laid := [("unicode/utf8.acceptRanges", laid_unicode_utf8_acceptRanges), ("unicode/utf8.first", laid_unicode_utf8_first)] }
def HeadSeqsSaid : Prop := headSeqsRow.holds Tryd.pinned (OpenSpec.ofChange headSeqsSpec)

/-- ITS FALSE NEIGHBOUR: 'it returns false'. Refute it at one input. -/
def headSeqsWrong : ChangeSpec := { name := "headSeqs", fn := fun _ => fun
  | [d1, d2] => { results := [.lit (.bool false)], args := [d1, d2] }
  | _ => none }
def HeadSeqsWrongFalsely : Prop := headSeqsRow.holds Tryd.pinned (OpenSpec.ofChange headSeqsWrong)

/-- 'rosterlaw08.HeadEvents': WHATEVER THE INPUT: true; the input reads as it did. -/
def headEventsSpec : ChangeSpec := { name := "headEvents", fn := fun _ => fun
  | [d1, d2, d3] => { results := [.lit (.bool true)], args := [d1, d2, d3] }
  | _ => none }
def headEventsRow : OpenClaim := { program := "yteiafgoigfehgaadoor", sum := "107eefd27384b2fad688e8ee5750a327dcf7d8a4c4732c798642bc340dd78836", func := "roster/rosterlaw08.HeadEvents", spec := "headEvents", inPlace := ["internal/bytealg.CountString", "internal/bytealg.IndexByteString", "internal/bytealg.IndexString", "internal/abi.NoEscape", "internal/bytealg.MakeNoZero"], named := ["internal/bytealg.MaxLen", "unicode/utf8.first", "unicode/utf8.acceptRanges"], apart := false, laid := [("unicode/utf8.acceptRanges", laid_unicode_utf8_acceptRanges), ("unicode/utf8.first", laid_unicode_utf8_first)] }
def HeadEventsSaid : Prop := headEventsRow.holds Tryd.pinned (OpenSpec.ofChange headEventsSpec)

/-- ITS FALSE NEIGHBOUR: 'it returns false'. Refute it at one input. -/
def headEventsWrong : ChangeSpec := { name := "headEvents", fn := fun _ => fun
  | [d1, d2, d3] => { results := [.lit (.bool false)], args := [d1, d2, d3] }
  | _ => none }
def HeadEventsWrongFalsely : Prop := headEventsRow.holds Tryd.pinned (OpenSpec.ofChange headEventsWrong)

/-- 'rosterlaw08.HeadOnce': WHATEVER THE INPUT: true; the input reads as it did. -/
def headOnceSpec : ChangeSpec := { name := "headOnce", fn := fun _ => fun
  | [d] => { results := [.lit (.bool true)], args := [d] }
  | _ => none }
def headOnceRow : OpenClaim := { program := "yteiafgoigfehgaadoor", sum := "107eefd27384b2fad688e8ee5750a327dcf7d8a4c4732c798642bc340dd78836", func := "roster/rosterlaw08.HeadOnce", spec := "headOnce", inPlace := ["internal/bytealg.IndexByteString", "internal/bytealg.IndexString", "internal/bytealg.CountString", "internal/abi.NoEscape", "internal/bytealg.MakeNoZero"], named := ["internal/bytealg.MaxLen", "unicode/utf8.first", "unicode/utf8.acceptRanges"], apart := false, laid := [("unicode/utf8.acceptRanges", laid_unicode_utf8_acceptRanges), ("unicode/utf8.first", laid_unicode_utf8_first)] }
def HeadOnceSaid : Prop := headOnceRow.holds Tryd.pinned (OpenSpec.ofChange headOnceSpec)

/-- ITS FALSE NEIGHBOUR: 'it returns false'. Refute it at one input. -/
def headOnceWrong : ChangeSpec := { name := "headOnce", fn := fun _ => fun
  | [d] => { results := [.lit (.bool false)], args := [d] }
  | _ => none }
def HeadOnceWrongFalsely : Prop := headOnceRow.holds Tryd.pinned (OpenSpec.ofChange headOnceWrong)

/-- 'rosterlaw08.HeadBack': WHATEVER THE INPUT: true; the input reads as it did. -/
def headBackSpec : ChangeSpec := { name := "headBack", fn := fun _ => fun
  | [d1, d2, d3, d4] => { results := [.lit (.bool true)], args := [d1, d2, d3, d4] }
  | _ => none }
def headBackRow : OpenClaim := { program := "yteiafgoigfehgaadoor", sum := "107eefd27384b2fad688e8ee5750a327dcf7d8a4c4732c798642bc340dd78836", func := "roster/rosterlaw08.HeadBack", spec := "headBack", inPlace := ["internal/bytealg.CountString", "internal/bytealg.IndexByteString", "internal/bytealg.IndexString", "internal/abi.NoEscape", "internal/bytealg.MakeNoZero"], named := ["internal/bytealg.MaxLen", "unicode/utf8.first", "unicode/utf8.acceptRanges"], apart := false, laid := [("unicode/utf8.acceptRanges", laid_unicode_utf8_acceptRanges), ("unicode/utf8.first", laid_unicode_utf8_first)] }
def HeadBackSaid : Prop := headBackRow.holds Tryd.pinned (OpenSpec.ofChange headBackSpec)

/-- ITS FALSE NEIGHBOUR: 'it returns false'. Refute it at one input. -/
def headBackWrong : ChangeSpec := { name := "headBack", fn := fun _ => fun
  | [d1, d2, d3, d4] => { results := [.lit (.bool false)], args := [d1, d2, d3, d4] }
  | _ => none }
def HeadBackWrongFalsely : Prop := headBackRow.holds Tryd.pinned (OpenSpec.ofChange headBackWrong)

/- THE SECOND FORM. 'bulk': how many values and letters a reading holds, each counted each time it is reached (what is shared counts as often as it is met; a slice's spare places count too). A statement '..UptoSaid' is the law's where the arguments, and the package variables that the reading takes, are together of bulk at most 1048576: NARROWER than '..Said'. Prove '..Said' where nothing that the law and all that it calls make is longer than what came in: it says more and counts as full. Else prove '..UptoSaid'. A law counts once. -/
mutual
def uptoBulk {H : Type} : DataW H → Nat
  | .lit (.string bytes) => bytes.length + 1
  | .lit _ => 1
  | .nil => 1
  | .ptr d => uptoBulk d + 1
  | .slice elems spare => uptoBulkAll elems + uptoBulkAll spare + 1
  | .agg parts => uptoBulkAll parts + 1
  | .iface _ d => uptoBulk d + 1
  | .map entries => uptoBulkEntries entries + 1
  | .held _ => 1
def uptoBulkAll {H : Type} : List (DataW H) → Nat
  | [] => 0
  | d :: r => uptoBulk d + uptoBulkAll r
def uptoBulkEntries {H : Type} : List (Lit × DataW H) → Nat
  | [] => 0
  | x :: r => uptoBulkEntry x + uptoBulkEntries r
def uptoBulkEntry {H : Type} : Lit × DataW H → Nat
  | (.string bytes, d) => bytes.length + uptoBulk d + 1
  | (_, d) => uptoBulk d + 1
 end
def uptoSmall : (H : Type) → List (DataW H) → Bool := fun _ ds => decide (uptoBulkAll ds ≤ 1048576)
def OpenSpec.upto (s : _root_.Go.ChangeSpec) : _root_.Go.OpenSpec := { _root_.Go.OpenSpec.ofChange s with cond := some uptoSmall }

/-- 'rosterlaw08.HeadTypes', WHERE WHAT IT READS IS OF BULK AT MOST 1048576: true; the input reads as it did. -/
def headTypesUptoRow : OpenClaim := { program := "yteiafgoigfehgaadoor", sum := "107eefd27384b2fad688e8ee5750a327dcf7d8a4c4732c798642bc340dd78836", func := "roster/rosterlaw08.HeadTypes", spec := "headTypes", inPlace := ["internal/bytealg.IndexByteString", "internal/bytealg.IndexString", "internal/bytealg.CountString", "internal/abi.NoEscape", "internal/bytealg.MakeNoZero"], named := ["internal/bytealg.MaxLen", "unicode/utf8.first", "unicode/utf8.acceptRanges"], apart := false, laid := [("unicode/utf8.acceptRanges", laid_unicode_utf8_acceptRanges), ("unicode/utf8.first", laid_unicode_utf8_first)], narrowed := true }
def HeadTypesUptoSaid : Prop := headTypesUptoRow.holds Tryd.pinned (OpenSpec.upto headTypesSpec)

/-- 'rosterlaw08.HeadTakes', WHERE WHAT IT READS IS OF BULK AT MOST 1048576: true; the input reads as it did. -/
def headTakesUptoRow : OpenClaim := { program := "yteiafgoigfehgaadoor", sum := "107eefd27384b2fad688e8ee5750a327dcf7d8a4c4732c798642bc340dd78836", func := "roster/rosterlaw08.HeadTakes", spec := "headTakes", inPlace := ["internal/bytealg.IndexByteString", "internal/bytealg.IndexString", "internal/bytealg.CountString", "internal/abi.NoEscape", "internal/bytealg.MakeNoZero"], named := ["internal/bytealg.MaxLen", "unicode/utf8.first", "unicode/utf8.acceptRanges"], apart := false, laid := [("unicode/utf8.acceptRanges", laid_unicode_utf8_acceptRanges), ("unicode/utf8.first", laid_unicode_utf8_first)], narrowed := true }
def HeadTakesUptoSaid : Prop := headTakesUptoRow.holds Tryd.pinned (OpenSpec.upto headTakesSpec)

/-- 'rosterlaw08.HeadTimes', WHERE WHAT IT READS IS OF BULK AT MOST 1048576: true; the input reads as it did. -/
def headTimesUptoRow : OpenClaim := { program := "yteiafgoigfehgaadoor", sum := "107eefd27384b2fad688e8ee5750a327dcf7d8a4c4732c798642bc340dd78836", func := "roster/rosterlaw08.HeadTimes", spec := "headTimes", inPlace := ["internal/bytealg.CountString", "internal/bytealg.IndexByteString", "internal/bytealg.IndexString", "internal/abi.NoEscape", "internal/bytealg.MakeNoZero"], named := ["internal/bytealg.MaxLen", "unicode/utf8.first", "unicode/utf8.acceptRanges"], apart := false, laid := [("unicode/utf8.acceptRanges", laid_unicode_utf8_acceptRanges), ("unicode/utf8.first", laid_unicode_utf8_first)], narrowed := true }
def HeadTimesUptoSaid : Prop := headTimesUptoRow.holds Tryd.pinned (OpenSpec.upto headTimesSpec)

/-- 'rosterlaw08.HeadStates', WHERE WHAT IT READS IS OF BULK AT MOST 1048576: true; the input reads as it did. -/
def headStatesUptoRow : OpenClaim := { program := "yteiafgoigfehgaadoor", sum := "107eefd27384b2fad688e8ee5750a327dcf7d8a4c4732c798642bc340dd78836", func := "roster/rosterlaw08.HeadStates", spec := "headStates", inPlace := ["internal/bytealg.CountString", "internal/bytealg.IndexByteString", "internal/bytealg.IndexString", "internal/abi.NoEscape", "internal/bytealg.MakeNoZero"], recurses := true, named := ["internal/bytealg.MaxLen", "unicode/utf8.first", "unicode/utf8.acceptRanges"], apart := false, laid := [("unicode/utf8.acceptRanges", laid_unicode_utf8_acceptRanges), ("unicode/utf8.first", laid_unicode_utf8_first)], narrowed := true }
def HeadStatesUptoSaid : Prop := headStatesUptoRow.holds Tryd.pinned (OpenSpec.upto headStatesSpec)

/-- 'rosterlaw08.HeadSeqs', WHERE WHAT IT READS IS OF BULK AT MOST 1048576: true; the input reads as it did. -/
def headSeqsUptoRow : OpenClaim := { program := "yteiafgoigfehgaadoor", sum := "107eefd27384b2fad688e8ee5750a327dcf7d8a4c4732c798642bc340dd78836", func := "roster/rosterlaw08.HeadSeqs", spec := "headSeqs", inPlace := ["internal/bytealg.CountString", "internal/bytealg.IndexByteString", "internal/bytealg.IndexString", "internal/abi.NoEscape", "internal/bytealg.MakeNoZero"], recurses := true, named := ["internal/bytealg.MaxLen", "unicode/utf8.first", "unicode/utf8.acceptRanges"], apart := false, laid := [("unicode/utf8.acceptRanges", laid_unicode_utf8_acceptRanges), ("unicode/utf8.first", laid_unicode_utf8_first)], narrowed := true }
def HeadSeqsUptoSaid : Prop := headSeqsUptoRow.holds Tryd.pinned (OpenSpec.upto headSeqsSpec)

/-- 'rosterlaw08.HeadEvents', WHERE WHAT IT READS IS OF BULK AT MOST 1048576: true; the input reads as it did. -/
def headEventsUptoRow : OpenClaim := { program := "yteiafgoigfehgaadoor", sum := "107eefd27384b2fad688e8ee5750a327dcf7d8a4c4732c798642bc340dd78836", func := "roster/rosterlaw08.HeadEvents", spec := "headEvents", inPlace := ["internal/bytealg.CountString", "internal/bytealg.IndexByteString", "internal/bytealg.IndexString", "internal/abi.NoEscape", "internal/bytealg.MakeNoZero"], named := ["internal/bytealg.MaxLen", "unicode/utf8.first", "unicode/utf8.acceptRanges"], apart := false, laid := [("unicode/utf8.acceptRanges", laid_unicode_utf8_acceptRanges), ("unicode/utf8.first", laid_unicode_utf8_first)], narrowed := true }
def HeadEventsUptoSaid : Prop := headEventsUptoRow.holds Tryd.pinned (OpenSpec.upto headEventsSpec)

/-- 'rosterlaw08.HeadOnce', WHERE WHAT IT READS IS OF BULK AT MOST 1048576: true; the input reads as it did. -/
def headOnceUptoRow : OpenClaim := { program := "yteiafgoigfehgaadoor", sum := "107eefd27384b2fad688e8ee5750a327dcf7d8a4c4732c798642bc340dd78836", func := "roster/rosterlaw08.HeadOnce", spec := "headOnce", inPlace := ["internal/bytealg.IndexByteString", "internal/bytealg.IndexString", "internal/bytealg.CountString", "internal/abi.NoEscape", "internal/bytealg.MakeNoZero"], named := ["internal/bytealg.MaxLen", "unicode/utf8.first", "unicode/utf8.acceptRanges"], apart := false, laid := [("unicode/utf8.acceptRanges", laid_unicode_utf8_acceptRanges), ("unicode/utf8.first", laid_unicode_utf8_first)], narrowed := true }
def HeadOnceUptoSaid : Prop := headOnceUptoRow.holds Tryd.pinned (OpenSpec.upto headOnceSpec)

/-- 'rosterlaw08.HeadBack', WHERE WHAT IT READS IS OF BULK AT MOST 1048576: true; the input reads as it did. -/
def headBackUptoRow : OpenClaim := { program := "yteiafgoigfehgaadoor", sum := "107eefd27384b2fad688e8ee5750a327dcf7d8a4c4732c798642bc340dd78836", func := "roster/rosterlaw08.HeadBack", spec := "headBack", inPlace := ["internal/bytealg.CountString", "internal/bytealg.IndexByteString", "internal/bytealg.IndexString", "internal/abi.NoEscape", "internal/bytealg.MakeNoZero"], named := ["internal/bytealg.MaxLen", "unicode/utf8.first", "unicode/utf8.acceptRanges"], apart := false, laid := [("unicode/utf8.acceptRanges", laid_unicode_utf8_acceptRanges), ("unicode/utf8.first", laid_unicode_utf8_first)], narrowed := true }
def HeadBackUptoSaid : Prop := headBackUptoRow.holds Tryd.pinned (OpenSpec.upto headBackSpec)

end Rows
end Go.Proofs.YteiafgoigfehgaaDoor
