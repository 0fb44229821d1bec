/- Contracts of Go functions, and plain laws. No condition but those told. -/
import Derived.Test.YtipdiddjhimdcaaGreatDoorS03
import Derived.Laws.Tables
set_option linter.unusedSimpArgs false
set_option linter.unusedVariables false
set_option maxRecDepth 100000
namespace Go.Proofs.YtipdiddjhimdcaaGreatDoor
end Go.Proofs.YtipdiddjhimdcaaGreatDoor
namespace Go.Proofs.YtipdiddjhimdcaaGreatDoor
open Go.RowKit
/-! ### The plain laws -/
theorem textV_len (v : Hop) (h : checkV v = 0) : (textV v).length ≤ 4000 := by
 obtain ⟨hh, _, hp, _⟩ := check_parts v h
 have h1 := (host_low _ hh).2.2
 have h2 := portT_len v.port
 have h3 := textS_le v.ps
 unfold textV
 rw [List.length_append, List.length_cons, List.length_append, List.length_append]
 have : nProto.length = 11 := rfl
 omega
theorem nameT_le (d : List UInt8) (h : d.length ≤ 64) : (nameT d).length ≤ 140 := by
 unfold nameT
 have := quote_le d
 split <;> simp <;> omega
theorem textA_le (a : Adr) (h : checkA a = 0) : (textA a).length ≤ 18000 := by
 obtain ⟨_, h2, h3, _⟩ := checkA_parts a h
 have e1 := nameT_le a.disp h2
 have e2 := textU_le a.uri h3
 have e3 := textS_le a.ps
 unfold textA
 rw [List.length_append, List.length_cons, List.length_append, List.length_cons]
 omega
end Go.Proofs.YtipdiddjhimdcaaGreatDoor
namespace Go.Proofs.YtipdiddjhimdcaaGreatDoor
open Go.RowKit Go.Sort
theorem RDlg.setLout {w : World} {vs : Array Value} {d : Dlg} (h : RDlg w (.agg vs) d) (n : Int) : RDlg w (.agg (vs.setIfInBounds 25 (.int .i64 n))) ⟨d.call, d.loc, d.rem, d.tgt, d.routes, d.lin, n⟩ := by
 obtain ⟨u1, u2, u3, u4, u5, u6, u7, u8, u9, e, h1, h2, h3, h4, h5, h6, h7, h8, h9⟩ := h
 injection e with e
 subst e
 exact ⟨u1, u2, u3, u4, u5, u6, u7, u8, u9, rfl, h1, h2, h3, h4, h5, h6, h7, h8, h9⟩
/-! ### slices that do not lie in a given block -/
end Go.Proofs.YtipdiddjhimdcaaGreatDoor
