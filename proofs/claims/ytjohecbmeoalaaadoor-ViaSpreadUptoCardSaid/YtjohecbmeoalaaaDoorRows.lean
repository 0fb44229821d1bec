/-
  NARROWER THAN 'FOR EVERY INPUT', by the rows' own cells (each row's printed sentence says how): ViaParses: laid · ViaLists: laid · ViaPrints: laid · ViaBack: laid · ViaOnce: laid · ViaSpread: laid.
  DERIVED. THE GIVEN ROWS OF THIS SEAT. 6 by the template 'for every input the law returns true; each argument reads behind the call as it read before'; 0 by the template 'total and deterministic' (their statements: YtjohecbmeoalaaaDoorTotals.lean).
  GIVEN WITH THE SEED: the statements are not yours to turn. If you find one false, say at which input.
  Laid BY PROGRAM, IN A SANDBOX (cutbox-rows.mjs): the forced cells as the released guide's own fill.sh prints them over the translation 445d809b240024ce… (all of the seat's roots in one cut). By AI agents, Wed Nov 11 2026. No macro, syntax, notation, axiom, sorry.
-/
import Derived.Test.YtjohecbmeoalaaaDoorChecked
import GoSem.PinnedTables
import GoSem.Claim
import GoSem.ClaimJoined
import GoSem.ClaimMapViews
import Derived.JoinedTies
import Derived.KernelRfl
namespace Go.Proofs.YtjohecbmeoalaaaDoor
/- THE CELL 'sum', in the pinned program and in every row, IS THE sha256 OF THE DUMP (.gsa) THAT YtjohecbmeoalaaaDoorProg.lean LOADS. Nothing in Lean hashes anything: it is a label: what it is worth is what the hold of that sum in a sandbox is worth. -/
noncomputable def Tryd.pinned : Pinned := { name := "ytjohecbmeoalaaadoor", sum := "445d809b240024ce59ec1f7b3fb7676d34a09743aae674180ca3a7c1ffb91c67", checked := Tryd.checked }
namespace Rows
def none {H : Type} : Left H := { results := [], args := [] }

/- WHAT THE LISTED PACKAGE-LEVEL VARIABLES READ AS WHEN THE CALL BEGINS. Each datum BY PROGRAM (the guide's laid-datum.mjs) off the statement by which the dump's own 'gosem.cut.vars' lays the variable. In a bare row this is a premise. The card (YtjohecbmeoalaaaDoorCards.lean) ties it to the program's text. -/
def laid_unicode_utf8_acceptRanges {H : Type} : DataW H := .agg [.agg [.lit (.int .u8 128), .lit (.int .u8 191)], .agg [.lit (.int .u8 160), .lit (.int .u8 191)], .agg [.lit (.int .u8 128), .lit (.int .u8 159)], .agg [.lit (.int .u8 144), .lit (.int .u8 191)], .agg [.lit (.int .u8 128), .lit (.int .u8 143)], .agg [.lit (.int .u8 0), .lit (.int .u8 0)], .agg [.lit (.int .u8 0), .lit (.int .u8 0)], .agg [.lit (.int .u8 0), .lit (.int .u8 0)], .agg [.lit (.int .u8 0), .lit (.int .u8 0)], .agg [.lit (.int .u8 0), .lit (.int .u8 0)], .agg [.lit (.int .u8 0), .lit (.int .u8 0)], .agg [.lit (.int .u8 0), .lit (.int .u8 0)], .agg [.lit (.int .u8 0), .lit (.int .u8 0)], .agg [.lit (.int .u8 0), .lit (.int .u8 0)], .agg [.lit (.int .u8 0), .lit (.int .u8 0)], .agg [.lit (.int .u8 0), .lit (.int .u8 0)]]
/-- One of Go's own tables, pinned by name: the form's constant. -/
def laid_unicode_utf8_first : DataW Unit := Go.Pinned.utf8First

/-- 'rosterlaw07.ViaParses': WHATEVER THE INPUT: true; the input reads as it did. -/
def viaParsesSpec : ChangeSpec := { name := "viaParses", fn := fun _ => fun
  | [d] => { results := [.lit (.bool true)], args := [d] }
  | _ => none }
def viaParsesRow : OpenClaim := { program := "ytjohecbmeoalaaadoor", sum := "445d809b240024ce59ec1f7b3fb7676d34a09743aae674180ca3a7c1ffb91c67", func := "roster/rosterlaw07.ViaParses", spec := "viaParses", inPlace := ["internal/bytealg.IndexByteString", "internal/bytealg.IndexString", "internal/bytealg.CountString"], named := ["unicode/utf8.first", "unicode/utf8.acceptRanges", "internal/bytealg.MaxLen"], apart := false, laid := [("unicode/utf8.acceptRanges", laid_unicode_utf8_acceptRanges), ("unicode/utf8.first", laid_unicode_utf8_first)] }
def ViaParsesSaid : Prop := viaParsesRow.holds Tryd.pinned (OpenSpec.ofChange viaParsesSpec)

/-- ITS FALSE NEIGHBOUR: 'it returns false'. Refute it at one input. -/
def viaParsesWrong : ChangeSpec := { name := "viaParses", fn := fun _ => fun
  | [d] => { results := [.lit (.bool false)], args := [d] }
  | _ => none }
def ViaParsesWrongFalsely : Prop := viaParsesRow.holds Tryd.pinned (OpenSpec.ofChange viaParsesWrong)

/-- 'rosterlaw07.ViaLists': WHATEVER THE INPUT: true; the input reads as it did. -/
def viaListsSpec : ChangeSpec := { name := "viaLists", fn := fun _ => fun
  | [d] => { results := [.lit (.bool true)], args := [d] }
  | _ => none }
def viaListsRow : OpenClaim := { program := "ytjohecbmeoalaaadoor", sum := "445d809b240024ce59ec1f7b3fb7676d34a09743aae674180ca3a7c1ffb91c67", func := "roster/rosterlaw07.ViaLists", spec := "viaLists", inPlace := ["internal/bytealg.IndexByteString", "internal/bytealg.IndexString", "internal/bytealg.CountString"], named := ["unicode/utf8.first", "unicode/utf8.acceptRanges", "internal/bytealg.MaxLen"], apart := false, laid := [("unicode/utf8.acceptRanges", laid_unicode_utf8_acceptRanges), ("unicode/utf8.first", laid_unicode_utf8_first)] }
def ViaListsSaid : Prop := viaListsRow.holds Tryd.pinned (OpenSpec.ofChange viaListsSpec)

/-- ITS FALSE NEIGHBOUR: 'it returns false'. Refute it at one input. -/
def viaListsWrong : ChangeSpec := { name := "viaLists", fn := fun _ => fun
  | [d] => { results := [.lit (.bool false)], args := [d] }
  | _ => none }
def ViaListsWrongFalsely : Prop := viaListsRow.holds Tryd.pinned (OpenSpec.ofChange viaListsWrong)

/-- 'rosterlaw07.ViaPrints': WHATEVER THE INPUT: true; the input reads as it did. -/
def viaPrintsSpec : ChangeSpec := { name := "viaPrints", fn := fun _ => fun
  | [d] => { results := [.lit (.bool true)], args := [d] }
  | _ => none }
def viaPrintsRow : OpenClaim := { program := "ytjohecbmeoalaaadoor", sum := "445d809b240024ce59ec1f7b3fb7676d34a09743aae674180ca3a7c1ffb91c67", func := "roster/rosterlaw07.ViaPrints", spec := "viaPrints", inPlace := ["internal/bytealg.IndexByteString", "internal/bytealg.IndexString", "internal/bytealg.CountString"], recurses := true, named := ["unicode/utf8.first", "unicode/utf8.acceptRanges", "internal/bytealg.MaxLen"], apart := false, laid := [("unicode/utf8.acceptRanges", laid_unicode_utf8_acceptRanges), ("unicode/utf8.first", laid_unicode_utf8_first)] }
def ViaPrintsSaid : Prop := viaPrintsRow.holds Tryd.pinned (OpenSpec.ofChange viaPrintsSpec)

/-- ITS FALSE NEIGHBOUR: 'it returns false'. Refute it at one input. -/
def viaPrintsWrong : ChangeSpec := { name := "viaPrints", fn := fun _ => fun
  | [d] => { results := [.lit (.bool false)], args := [d] }
  | _ => none }
def ViaPrintsWrongFalsely : Prop := viaPrintsRow.holds Tryd.pinned (OpenSpec.ofChange viaPrintsWrong)

/-- 'rosterlaw07.ViaBack': WHATEVER THE INPUT: true; the input reads as it did. -/
def viaBackSpec : ChangeSpec := { name := "viaBack", fn := fun _ => fun
  | [d] => { results := [.lit (.bool true)], args := [d] }
  | _ => none }
def viaBackRow : OpenClaim := { program := "ytjohecbmeoalaaadoor", sum := "445d809b240024ce59ec1f7b3fb7676d34a09743aae674180ca3a7c1ffb91c67", func := "roster/rosterlaw07.ViaBack", spec := "viaBack", inPlace := ["internal/bytealg.IndexByteString", "internal/bytealg.IndexString", "internal/bytealg.CountString"], named := ["unicode/utf8.first", "unicode/utf8.acceptRanges", "internal/bytealg.MaxLen"], apart := false, laid := [("unicode/utf8.acceptRanges", laid_unicode_utf8_acceptRanges), ("unicode/utf8.first", laid_unicode_utf8_first)] }
def ViaBackSaid : Prop := viaBackRow.holds Tryd.pinned (OpenSpec.ofChange viaBackSpec)

/-- ITS FALSE NEIGHBOUR: 'it returns false'. Refute it at one input. -/
def viaBackWrong : ChangeSpec := { name := "viaBack", fn := fun _ => fun
  | [d] => { results := [.lit (.bool false)], args := [d] }
  | _ => none }
def ViaBackWrongFalsely : Prop := viaBackRow.holds Tryd.pinned (OpenSpec.ofChange viaBackWrong)

/-- 'rosterlaw07.ViaOnce': WHATEVER THE INPUT: true; the input reads as it did. -/
def viaOnceSpec : ChangeSpec := { name := "viaOnce", fn := fun _ => fun
  | [d] => { results := [.lit (.bool true)], args := [d] }
  | _ => none }
def viaOnceRow : OpenClaim := { program := "ytjohecbmeoalaaadoor", sum := "445d809b240024ce59ec1f7b3fb7676d34a09743aae674180ca3a7c1ffb91c67", func := "roster/rosterlaw07.ViaOnce", spec := "viaOnce", inPlace := ["internal/bytealg.IndexByteString", "internal/bytealg.IndexString", "internal/bytealg.CountString"], named := ["unicode/utf8.first", "unicode/utf8.acceptRanges", "internal/bytealg.MaxLen"], apart := false, laid := [("unicode/utf8.acceptRanges", laid_unicode_utf8_acceptRanges), ("unicode/utf8.first", laid_unicode_utf8_first)] }
def ViaOnceSaid : Prop := viaOnceRow.holds Tryd.pinned (OpenSpec.ofChange viaOnceSpec)

/-- ITS FALSE NEIGHBOUR: 'it returns false'. Refute it at one input. -/
def viaOnceWrong : ChangeSpec := { name := "viaOnce", fn := fun _ => fun
  | [d] => { results := [.lit (.bool false)], args := [d] }
  | _ => none }
def ViaOnceWrongFalsely : Prop := viaOnceRow.holds Tryd.pinned (OpenSpec.ofChange viaOnceWrong)

/-- 'rosterlaw07.ViaSpread': WHATEVER THE INPUT: true; the input reads as it did. -/
def viaSpreadSpec : ChangeSpec := { name := "viaSpread", fn := fun _ => fun
  | [d1, d2] => { results := [.lit (.bool true)], args := [d1, d2] }
  | _ => none }
def viaSpreadRow : OpenClaim := { program := "ytjohecbmeoalaaadoor", sum := "445d809b240024ce59ec1f7b3fb7676d34a09743aae674180ca3a7c1ffb91c67", func := "roster/rosterlaw07.ViaSpread", spec := "viaSpread", inPlace := ["internal/bytealg.IndexByteString", "internal/bytealg.IndexString", "internal/bytealg.CountString"], named := ["unicode/utf8.first", "unicode/utf8.acceptRanges", "internal/bytealg.MaxLen"], apart := false, laid := [("unicode/utf8.acceptRanges", laid_unicode_utf8_acceptRanges), ("unicode/utf8.first", laid_unicode_utf8_first)] }
def ViaSpreadSaid : Prop := viaSpreadRow.holds Tryd.pinned (OpenSpec.ofChange viaSpreadSpec)

/-- ITS FALSE NEIGHBOUR: 'it returns false'. Refute it at one input. -/
def viaSpreadWrong : ChangeSpec := { name := "viaSpread", fn := fun _ => fun
  | [d1, d2] => { results := [.lit (.bool false)], args := [d1, d2] }
  | _ => none }
def ViaSpreadWrongFalsely : Prop := viaSpreadRow.holds Tryd.pinned (OpenSpec.ofChange viaSpreadWrong)

/- THE SECOND FORM. 'bulk': how many values and letters a reading holds, each counted each time it is reached (what is shared counts as often as it is met; a slice's spare places count too). A statement '..UptoSaid' is the law's where the arguments, and the package variables that the reading takes, are together of bulk at most 1048576: NARROWER than '..Said'. Prove '..Said' where nothing that the law and all that it calls make is longer than what came in: it says more and counts as full. Else prove '..UptoSaid'. A law counts once. -/
mutual
def uptoBulk {H : Type} : DataW H → Nat
  | .lit (.string bytes) => bytes.length + 1
  | .lit _ => 1
  | .nil => 1
  | .ptr d => uptoBulk d + 1
  | .slice elems spare => uptoBulkAll elems + uptoBulkAll spare + 1
  | .agg parts => uptoBulkAll parts + 1
  | .iface _ d => uptoBulk d + 1
  | .map entries => uptoBulkEntries entries + 1
  | .held _ => 1
def uptoBulkAll {H : Type} : List (DataW H) → Nat
  | [] => 0
  | d :: r => uptoBulk d + uptoBulkAll r
def uptoBulkEntries {H : Type} : List (Lit × DataW H) → Nat
  | [] => 0
  | x :: r => uptoBulkEntry x + uptoBulkEntries r
def uptoBulkEntry {H : Type} : Lit × DataW H → Nat
  | (.string bytes, d) => bytes.length + uptoBulk d + 1
  | (_, d) => uptoBulk d + 1
 end
def uptoSmall : (H : Type) → List (DataW H) → Bool := fun _ ds => decide (uptoBulkAll ds ≤ 1048576)
def OpenSpec.upto (s : _root_.Go.ChangeSpec) : _root_.Go.OpenSpec := { _root_.Go.OpenSpec.ofChange s with cond := some uptoSmall }

/-- 'rosterlaw07.ViaParses', WHERE WHAT IT READS IS OF BULK AT MOST 1048576: true; the input reads as it did. -/
def viaParsesUptoRow : OpenClaim := { program := "ytjohecbmeoalaaadoor", sum := "445d809b240024ce59ec1f7b3fb7676d34a09743aae674180ca3a7c1ffb91c67", func := "roster/rosterlaw07.ViaParses", spec := "viaParses", inPlace := ["internal/bytealg.IndexByteString", "internal/bytealg.IndexString", "internal/bytealg.CountString"], named := ["unicode/utf8.first", "unicode/utf8.acceptRanges", "internal/bytealg.MaxLen"], apart := false, laid := [("unicode/utf8.acceptRanges", laid_unicode_utf8_acceptRanges), ("unicode/utf8.first", laid_unicode_utf8_first)], narrowed := true }
def ViaParsesUptoSaid : Prop := viaParsesUptoRow.holds Tryd.pinned (OpenSpec.upto viaParsesSpec)

/-- 'rosterlaw07.ViaLists', WHERE WHAT IT READS IS OF BULK AT MOST 1048576: true; the input reads as it did. -/
def viaListsUptoRow : OpenClaim := { program := "ytjohecbmeoalaaadoor", sum := "445d809b240024ce59ec1f7b3fb7676d34a09743aae674180ca3a7c1ffb91c67", func := "roster/rosterlaw07.ViaLists", spec := "viaLists", inPlace := ["internal/bytealg.IndexByteString", "internal/bytealg.IndexString", "internal/bytealg.CountString"], named := ["unicode/utf8.first", "unicode/utf8.acceptRanges", "internal/bytealg.MaxLen"], apart := false, laid := [("unicode/utf8.acceptRanges", laid_unicode_utf8_acceptRanges), ("unicode/utf8.first", laid_unicode_utf8_first)], narrowed := true }
def ViaListsUptoSaid : Prop := viaListsUptoRow.holds Tryd.pinned (OpenSpec.upto viaListsSpec)

/-- 'rosterlaw07.ViaPrints', WHERE WHAT IT READS IS OF BULK AT MOST 1048576: true; the input reads as it did. -/
def viaPrintsUptoRow : OpenClaim := { program := "ytjohecbmeoalaaadoor", sum := "445d809b240024ce59ec1f7b3fb7676d34a09743aae674180ca3a7c1ffb91c67", func := "roster/rosterlaw07.ViaPrints", spec := "viaPrints", inPlace := ["internal/bytealg.IndexByteString", "internal/bytealg.IndexString", "internal/bytealg.CountString"], recurses := true, named := ["unicode/utf8.first", "unicode/utf8.acceptRanges", "internal/bytealg.MaxLen"], apart := false, laid := [("unicode/utf8.acceptRanges", laid_unicode_utf8_acceptRanges), ("unicode/utf8.first", laid_unicode_utf8_first)], narrowed := true }
def ViaPrintsUptoSaid : Prop := viaPrintsUptoRow.holds Tryd.pinned (OpenSpec.upto viaPrintsSpec)

/-- 'rosterlaw07.ViaBack', WHERE WHAT IT READS IS OF BULK AT MOST 1048576: true; the input reads as it did. -/
def viaBackUptoRow : OpenClaim := { program := "ytjohecbmeoalaaadoor", sum := "445d809b240024ce59ec1f7b3fb7676d34a09743aae674180ca3a7c1ffb91c67", func := "roster/rosterlaw07.ViaBack", spec := "viaBack", inPlace := ["internal/bytealg.IndexByteString", "internal/bytealg.IndexString", "internal/bytealg.CountString"], named := ["unicode/utf8.first", "unicode/utf8.acceptRanges", "internal/bytealg.MaxLen"], apart := false, laid := [("unicode/utf8.acceptRanges", laid_unicode_utf8_acceptRanges), ("unicode/utf8.first", laid_unicode_utf8_first)], narrowed := true }
def ViaBackUptoSaid : Prop := viaBackUptoRow.holds Tryd.pinned (OpenSpec.upto viaBackSpec)

/-- 'rosterlaw07.ViaOnce', WHERE WHAT IT READS IS OF BULK AT MOST 1048576: true; the input reads as it did. -/
def viaOnceUptoRow : OpenClaim := { program := "ytjohecbmeoalaaadoor", sum := "445d809b240024ce59ec1f7b3fb7676d34a09743aae674180ca3a7c1ffb91c67", func := "roster/rosterlaw07.ViaOnce", spec := "viaOnce", inPlace := ["internal/bytealg.IndexByteString", "internal/bytealg.IndexString", "internal/bytealg.CountString"], named := ["unicode/utf8.first", "unicode/utf8.acceptRanges", "internal/bytealg.MaxLen"], apart := false, laid := [("unicode/utf8.acceptRanges", laid_unicode_utf8_acceptRanges), ("unicode/utf8.first", laid_unicode_utf8_first)], narrowed := true }
def ViaOnceUptoSaid : Prop := viaOnceUptoRow.holds Tryd.pinned (OpenSpec.upto viaOnceSpec)

/-- 'rosterlaw07.ViaSpread', WHERE WHAT IT READS IS OF BULK AT MOST 1048576: true; the input reads as it did. -/
def viaSpreadUptoRow : OpenClaim := { program := "ytjohecbmeoalaaadoor", sum := "445d809b240024ce59ec1f7b3fb7676d34a09743aae674180ca3a7c1ffb91c67", func := "roster/rosterlaw07.ViaSpread", spec := "viaSpread", inPlace := ["internal/bytealg.IndexByteString", "internal/bytealg.IndexString", "internal/bytealg.CountString"], named := ["unicode/utf8.first", "unicode/utf8.acceptRanges", "internal/bytealg.MaxLen"], apart := false, laid := [("unicode/utf8.acceptRanges", laid_unicode_utf8_acceptRanges), ("unicode/utf8.first", laid_unicode_utf8_first)], narrowed := true }
def ViaSpreadUptoSaid : Prop := viaSpreadUptoRow.holds Tryd.pinned (OpenSpec.upto viaSpreadSpec)

end Rows
end Go.Proofs.YtjohecbmeoalaaaDoor
