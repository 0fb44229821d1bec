/-
  No cell of these rows narrows 'for every input' (looked for: loops, veiled, ifaces, maps, wideKeys, modest, calm, conditions, laid).
  DERIVED. THE GIVEN ROWS OF THIS SEAT. 8 by the template 'for every input the law returns true; each argument reads behind the call as it read before'; 0 by the template 'total and deterministic' (their statements: YtbkeommlolcaiaaTotals.lean).
  GIVEN WITH THE SEED: the statements are not yours to turn. If you find one false, say at which input.
  Laid BY PROGRAM, IN A SANDBOX (cutbox-rows.mjs): the forced cells as the released guide's own fill.sh prints them over the translation 0d31d2cf3d01c476… (all of the seat's roots in one cut). By AI agents, Wed Nov 11 2026. No macro, syntax, notation, axiom, sorry.
-/
import Derived.Test.YtbkeommlolcaiaaChecked
import GoSem.Claim
import GoSem.ClaimJoined
import GoSem.ClaimMapViews
import Derived.JoinedTies
import Derived.KernelRfl
namespace Go.Proofs.Ytbkeommlolcaiaa
/- THE CELL 'sum', in the pinned program and in every row, IS THE sha256 OF THE DUMP (.gsa) THAT YtbkeommlolcaiaaProg.lean LOADS. Nothing in Lean hashes anything: it is a label: what it is worth is what the hold of that sum in a sandbox is worth. -/
noncomputable def Try.pinned : Pinned := { name := "ytbkeommlolcaiaa", sum := "0d31d2cf3d01c4764d391aad97ed0596cad66646c037f7ab58130c7f0b8f612f", checked := Try.checked }
namespace Rows
def none {H : Type} : Left H := { results := [], args := [] }

/-- 'rosterlaw01.ScanJoined': WHATEVER THE INPUT: true; the input reads as it did. -/
def scanJoinedSpec : ChangeSpec := { name := "scanJoined", fn := fun _ => fun
  | [d1, d2] => { results := [.lit (.bool true)], args := [d1, d2] }
  | _ => none }
def scanJoinedRow : OpenClaim := { program := "ytbkeommlolcaiaa", sum := "0d31d2cf3d01c4764d391aad97ed0596cad66646c037f7ab58130c7f0b8f612f", func := "roster/rosterlaw01.ScanJoined", spec := "scanJoined", apart := false }
def ScanJoinedSaid : Prop := scanJoinedRow.holds Try.pinned (OpenSpec.ofChange scanJoinedSpec)

/-- ITS FALSE NEIGHBOUR: 'it returns false'. Refute it at one input. -/
def scanJoinedWrong : ChangeSpec := { name := "scanJoined", fn := fun _ => fun
  | [d1, d2] => { results := [.lit (.bool false)], args := [d1, d2] }
  | _ => none }
def ScanJoinedWrongFalsely : Prop := scanJoinedRow.holds Try.pinned (OpenSpec.ofChange scanJoinedWrong)

/-- 'rosterlaw01.ScanPieces': WHATEVER THE INPUT: true; the input reads as it did. -/
def scanPiecesSpec : ChangeSpec := { name := "scanPieces", fn := fun _ => fun
  | [d1, d2, d3] => { results := [.lit (.bool true)], args := [d1, d2, d3] }
  | _ => none }
def scanPiecesRow : OpenClaim := { program := "ytbkeommlolcaiaa", sum := "0d31d2cf3d01c4764d391aad97ed0596cad66646c037f7ab58130c7f0b8f612f", func := "roster/rosterlaw01.ScanPieces", spec := "scanPieces", apart := false }
def ScanPiecesSaid : Prop := scanPiecesRow.holds Try.pinned (OpenSpec.ofChange scanPiecesSpec)

/-- ITS FALSE NEIGHBOUR: 'it returns false'. Refute it at one input. -/
def scanPiecesWrong : ChangeSpec := { name := "scanPieces", fn := fun _ => fun
  | [d1, d2, d3] => { results := [.lit (.bool false)], args := [d1, d2, d3] }
  | _ => none }
def ScanPiecesWrongFalsely : Prop := scanPiecesRow.holds Try.pinned (OpenSpec.ofChange scanPiecesWrong)

/-- 'rosterlaw01.ScanNumbers': WHATEVER THE INPUT: true; the input reads as it did. -/
def scanNumbersSpec : ChangeSpec := { name := "scanNumbers", fn := fun _ => fun
  | [d1, d2, d3] => { results := [.lit (.bool true)], args := [d1, d2, d3] }
  | _ => none }
def scanNumbersRow : OpenClaim := { program := "ytbkeommlolcaiaa", sum := "0d31d2cf3d01c4764d391aad97ed0596cad66646c037f7ab58130c7f0b8f612f", func := "roster/rosterlaw01.ScanNumbers", spec := "scanNumbers", recurses := true, apart := false }
def ScanNumbersSaid : Prop := scanNumbersRow.holds Try.pinned (OpenSpec.ofChange scanNumbersSpec)

/-- ITS FALSE NEIGHBOUR: 'it returns false'. Refute it at one input. -/
def scanNumbersWrong : ChangeSpec := { name := "scanNumbers", fn := fun _ => fun
  | [d1, d2, d3] => { results := [.lit (.bool false)], args := [d1, d2, d3] }
  | _ => none }
def ScanNumbersWrongFalsely : Prop := scanNumbersRow.holds Try.pinned (OpenSpec.ofChange scanNumbersWrong)

/-- 'rosterlaw01.ScanQuotes': WHATEVER THE INPUT: true; the input reads as it did. -/
def scanQuotesSpec : ChangeSpec := { name := "scanQuotes", fn := fun _ => fun
  | [d] => { results := [.lit (.bool true)], args := [d] }
  | _ => none }
def scanQuotesRow : OpenClaim := { program := "ytbkeommlolcaiaa", sum := "0d31d2cf3d01c4764d391aad97ed0596cad66646c037f7ab58130c7f0b8f612f", func := "roster/rosterlaw01.ScanQuotes", spec := "scanQuotes", apart := false }
def ScanQuotesSaid : Prop := scanQuotesRow.holds Try.pinned (OpenSpec.ofChange scanQuotesSpec)

/-- ITS FALSE NEIGHBOUR: 'it returns false'. Refute it at one input. -/
def scanQuotesWrong : ChangeSpec := { name := "scanQuotes", fn := fun _ => fun
  | [d] => { results := [.lit (.bool false)], args := [d] }
  | _ => none }
def ScanQuotesWrongFalsely : Prop := scanQuotesRow.holds Try.pinned (OpenSpec.ofChange scanQuotesWrong)

/-- 'rosterlaw01.ScanTexts': WHATEVER THE INPUT: true; the input reads as it did. -/
def scanTextsSpec : ChangeSpec := { name := "scanTexts", fn := fun _ => fun
  | [d] => { results := [.lit (.bool true)], args := [d] }
  | _ => none }
def scanTextsRow : OpenClaim := { program := "ytbkeommlolcaiaa", sum := "0d31d2cf3d01c4764d391aad97ed0596cad66646c037f7ab58130c7f0b8f612f", func := "roster/rosterlaw01.ScanTexts", spec := "scanTexts", apart := false }
def ScanTextsSaid : Prop := scanTextsRow.holds Try.pinned (OpenSpec.ofChange scanTextsSpec)

/-- ITS FALSE NEIGHBOUR: 'it returns false'. Refute it at one input. -/
def scanTextsWrong : ChangeSpec := { name := "scanTexts", fn := fun _ => fun
  | [d] => { results := [.lit (.bool false)], args := [d] }
  | _ => none }
def ScanTextsWrongFalsely : Prop := scanTextsRow.holds Try.pinned (OpenSpec.ofChange scanTextsWrong)

/-- 'rosterlaw01.ScanSame': WHATEVER THE INPUT: true; the input reads as it did. -/
def scanSameSpec : ChangeSpec := { name := "scanSame", fn := fun _ => fun
  | [d1, d2, d3] => { results := [.lit (.bool true)], args := [d1, d2, d3] }
  | _ => none }
def scanSameRow : OpenClaim := { program := "ytbkeommlolcaiaa", sum := "0d31d2cf3d01c4764d391aad97ed0596cad66646c037f7ab58130c7f0b8f612f", func := "roster/rosterlaw01.ScanSame", spec := "scanSame", apart := false }
def ScanSameSaid : Prop := scanSameRow.holds Try.pinned (OpenSpec.ofChange scanSameSpec)

/-- ITS FALSE NEIGHBOUR: 'it returns false'. Refute it at one input. -/
def scanSameWrong : ChangeSpec := { name := "scanSame", fn := fun _ => fun
  | [d1, d2, d3] => { results := [.lit (.bool false)], args := [d1, d2, d3] }
  | _ => none }
def ScanSameWrongFalsely : Prop := scanSameRow.holds Try.pinned (OpenSpec.ofChange scanSameWrong)

/-- 'rosterlaw01.ScanEscapes': WHATEVER THE INPUT: true; the input reads as it did. -/
def scanEscapesSpec : ChangeSpec := { name := "scanEscapes", fn := fun _ => fun
  | [d1, d2] => { results := [.lit (.bool true)], args := [d1, d2] }
  | _ => none }
def scanEscapesRow : OpenClaim := { program := "ytbkeommlolcaiaa", sum := "0d31d2cf3d01c4764d391aad97ed0596cad66646c037f7ab58130c7f0b8f612f", func := "roster/rosterlaw01.ScanEscapes", spec := "scanEscapes", apart := false }
def ScanEscapesSaid : Prop := scanEscapesRow.holds Try.pinned (OpenSpec.ofChange scanEscapesSpec)

/-- ITS FALSE NEIGHBOUR: 'it returns false'. Refute it at one input. -/
def scanEscapesWrong : ChangeSpec := { name := "scanEscapes", fn := fun _ => fun
  | [d1, d2] => { results := [.lit (.bool false)], args := [d1, d2] }
  | _ => none }
def ScanEscapesWrongFalsely : Prop := scanEscapesRow.holds Try.pinned (OpenSpec.ofChange scanEscapesWrong)

/-- 'rosterlaw01.ScanBack': WHATEVER THE INPUT: true; the input reads as it did. -/
def scanBackSpec : ChangeSpec := { name := "scanBack", fn := fun _ => fun
  | [d1, d2, d3] => { results := [.lit (.bool true)], args := [d1, d2, d3] }
  | _ => none }
def scanBackRow : OpenClaim := { program := "ytbkeommlolcaiaa", sum := "0d31d2cf3d01c4764d391aad97ed0596cad66646c037f7ab58130c7f0b8f612f", func := "roster/rosterlaw01.ScanBack", spec := "scanBack", apart := false }
def ScanBackSaid : Prop := scanBackRow.holds Try.pinned (OpenSpec.ofChange scanBackSpec)

/-- ITS FALSE NEIGHBOUR: 'it returns false'. Refute it at one input. -/
def scanBackWrong : ChangeSpec := { name := "scanBack", fn := fun _ => fun
  | [d1, d2, d3] => { results := [.lit (.bool false)], args := [d1, d2, d3] }
  | _ => none }
def ScanBackWrongFalsely : Prop := scanBackRow.holds Try.pinned (OpenSpec.ofChange scanBackWrong)

/- THE SECOND FORM. 'bulk': how many values and letters a reading holds, each counted each time it is reached (what is shared counts as often as it is met; a slice's spare places count too). A statement '..UptoSaid' is the law's where the arguments, and the package variables that the reading takes, are together of bulk at most 1048576: NARROWER than '..Said'. Prove '..Said' where nothing that the law and all that it calls make is longer than what came in: it says more and counts as full. Else prove '..UptoSaid'. A law counts once. -/
mutual
def uptoBulk {H : Type} : DataW H → Nat
  | .lit (.string bytes) => bytes.length + 1
  | .lit _ => 1
  | .nil => 1
  | .ptr d => uptoBulk d + 1
  | .slice elems spare => uptoBulkAll elems + uptoBulkAll spare + 1
  | .agg parts => uptoBulkAll parts + 1
  | .iface _ d => uptoBulk d + 1
  | .map entries => uptoBulkEntries entries + 1
  | .held _ => 1
def uptoBulkAll {H : Type} : List (DataW H) → Nat
  | [] => 0
  | d :: r => uptoBulk d + uptoBulkAll r
def uptoBulkEntries {H : Type} : List (Lit × DataW H) → Nat
  | [] => 0
  | x :: r => uptoBulkEntry x + uptoBulkEntries r
def uptoBulkEntry {H : Type} : Lit × DataW H → Nat
  | (.string bytes, d) => bytes.length + uptoBulk d + 1
  | (_, d) => uptoBulk d + 1
 end
def uptoSmall : (H : Type) → List (DataW H) → Bool := fun _ ds => decide (uptoBulkAll ds ≤ 1048576)
def OpenSpec.upto (s : _root_.Go.ChangeSpec) : _root_.Go.OpenSpec := { _root_.Go.OpenSpec.ofChange s with cond := some uptoSmall }

/-- 'rosterlaw01.ScanJoined', WHERE WHAT IT READS IS OF BULK AT MOST 1048576: true; the input reads as it did. -/
def scanJoinedUptoRow : OpenClaim := { program := "ytbkeommlolcaiaa", sum := "0d31d2cf3d01c4764d391aad97ed0596cad66646c037f7ab58130c7f0b8f612f", func := "roster/rosterlaw01.ScanJoined", spec := "scanJoined", apart := false, narrowed := true }
def ScanJoinedUptoSaid : Prop := scanJoinedUptoRow.holds Try.pinned (OpenSpec.upto scanJoinedSpec)

/-- 'rosterlaw01.ScanPieces', WHERE WHAT IT READS IS OF BULK AT MOST 1048576: true; the input reads as it did. -/
def scanPiecesUptoRow : OpenClaim := { program := "ytbkeommlolcaiaa", sum := "0d31d2cf3d01c4764d391aad97ed0596cad66646c037f7ab58130c7f0b8f612f", func := "roster/rosterlaw01.ScanPieces", spec := "scanPieces", apart := false, narrowed := true }
def ScanPiecesUptoSaid : Prop := scanPiecesUptoRow.holds Try.pinned (OpenSpec.upto scanPiecesSpec)

/-- 'rosterlaw01.ScanNumbers', WHERE WHAT IT READS IS OF BULK AT MOST 1048576: true; the input reads as it did. -/
def scanNumbersUptoRow : OpenClaim := { program := "ytbkeommlolcaiaa", sum := "0d31d2cf3d01c4764d391aad97ed0596cad66646c037f7ab58130c7f0b8f612f", func := "roster/rosterlaw01.ScanNumbers", spec := "scanNumbers", recurses := true, apart := false, narrowed := true }
def ScanNumbersUptoSaid : Prop := scanNumbersUptoRow.holds Try.pinned (OpenSpec.upto scanNumbersSpec)

/-- 'rosterlaw01.ScanQuotes', WHERE WHAT IT READS IS OF BULK AT MOST 1048576: true; the input reads as it did. -/
def scanQuotesUptoRow : OpenClaim := { program := "ytbkeommlolcaiaa", sum := "0d31d2cf3d01c4764d391aad97ed0596cad66646c037f7ab58130c7f0b8f612f", func := "roster/rosterlaw01.ScanQuotes", spec := "scanQuotes", apart := false, narrowed := true }
def ScanQuotesUptoSaid : Prop := scanQuotesUptoRow.holds Try.pinned (OpenSpec.upto scanQuotesSpec)

/-- 'rosterlaw01.ScanTexts', WHERE WHAT IT READS IS OF BULK AT MOST 1048576: true; the input reads as it did. -/
def scanTextsUptoRow : OpenClaim := { program := "ytbkeommlolcaiaa", sum := "0d31d2cf3d01c4764d391aad97ed0596cad66646c037f7ab58130c7f0b8f612f", func := "roster/rosterlaw01.ScanTexts", spec := "scanTexts", apart := false, narrowed := true }
def ScanTextsUptoSaid : Prop := scanTextsUptoRow.holds Try.pinned (OpenSpec.upto scanTextsSpec)

/-- 'rosterlaw01.ScanSame', WHERE WHAT IT READS IS OF BULK AT MOST 1048576: true; the input reads as it did. -/
def scanSameUptoRow : OpenClaim := { program := "ytbkeommlolcaiaa", sum := "0d31d2cf3d01c4764d391aad97ed0596cad66646c037f7ab58130c7f0b8f612f", func := "roster/rosterlaw01.ScanSame", spec := "scanSame", apart := false, narrowed := true }
def ScanSameUptoSaid : Prop := scanSameUptoRow.holds Try.pinned (OpenSpec.upto scanSameSpec)

/-- 'rosterlaw01.ScanEscapes', WHERE WHAT IT READS IS OF BULK AT MOST 1048576: true; the input reads as it did. -/
def scanEscapesUptoRow : OpenClaim := { program := "ytbkeommlolcaiaa", sum := "0d31d2cf3d01c4764d391aad97ed0596cad66646c037f7ab58130c7f0b8f612f", func := "roster/rosterlaw01.ScanEscapes", spec := "scanEscapes", apart := false, narrowed := true }
def ScanEscapesUptoSaid : Prop := scanEscapesUptoRow.holds Try.pinned (OpenSpec.upto scanEscapesSpec)

/-- 'rosterlaw01.ScanBack', WHERE WHAT IT READS IS OF BULK AT MOST 1048576: true; the input reads as it did. -/
def scanBackUptoRow : OpenClaim := { program := "ytbkeommlolcaiaa", sum := "0d31d2cf3d01c4764d391aad97ed0596cad66646c037f7ab58130c7f0b8f612f", func := "roster/rosterlaw01.ScanBack", spec := "scanBack", apart := false, narrowed := true }
def ScanBackUptoSaid : Prop := scanBackUptoRow.holds Try.pinned (OpenSpec.upto scanBackSpec)

end Rows
end Go.Proofs.Ytbkeommlolcaiaa
