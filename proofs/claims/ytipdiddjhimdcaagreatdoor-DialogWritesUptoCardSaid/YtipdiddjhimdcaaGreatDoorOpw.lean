/- Contracts of Go functions, and plain laws. No condition but those told. -/
import Derived.Test.YtipdiddjhimdcaaGreatDoorOpq
set_option linter.unusedSimpArgs false
set_option linter.unusedVariables false
set_option maxRecDepth 100000
namespace Go.Proofs.YtipdiddjhimdcaaGreatDoor
open Go.ChangeShapes Go.WideShapes Go.ChangeAt Go.RowKit Go.Deep Go.Joins
def DlgBdW (B : Nat) (d : Dlg) : Prop := DlgBd B d ∧ d.tgt.scheme.length ≤ B ∧ (∀ p ∈ d.tgt.ps, p.name.length ≤ B ∧ p.value.length ≤ B) ∧ (∀ p ∈ d.tgt.hs, p.name.length ≤ B ∧ p.value.length ≤ B) ∧ d.tgt.ps.length ≤ B ∧ d.tgt.hs.length ≤ B ∧ d.call.length ≤ B
theorem DlgBdW.mono {B B' : Nat} {d : Dlg} (h : DlgBdW B d) (hB : B ≤ B') : DlgBdW B' d := by
 obtain ⟨h1, h2, h3, h4, h5, h6, h7⟩ := h
 exact ⟨h1.mono hB, by omega, fun p hp => by have := h3 p hp; omega, fun p hp => by have := h4 p hp; omega, by omega, by omega, by omega⟩
section
variable {H : Type} {enc : TypeId × Value → H} {w : World} {base : Nat} {spare : Nat → Bool} {held : Bool}
set_option maxHeartbeats 3200000 in
theorem open_dlgW {v : Value} {d : DataW H} {p : List MemPlace} {r : Reach} {b0 : Nat} (hv : Value.okWide Tryz.prog w r b0 34 v) (h : DataW.Trod enc Tryz.prog w base spare held 34 v d p) :
  ∃ (vs : Array Value) (D : Dlg), v = .agg vs ∧ RDlg w (.agg vs) D ∧ DlgBdW (Rows.uptoBulk d) D := by
 have hA := Tryz.underlying34
 obtain ⟨cs, rfl, hsz⟩ := okWide_struct hA hv
 obtain ⟨c0, c1, c2, c3, c4, c5, c6, c7, c8, c9, c10, c11, c12, c13, c14, c15, c16, c17, c18, c19, c20, c21, c22, c23, c24, c25, rfl⟩ := array26 (hsz.trans (by kernel_rfl))
 obtain ⟨fuel, hf⟩ := h
 obtain ⟨xs, n, _, hx, hl, hlen, hf⟩ := DataW.trod_struct hA hf
 have q0 := hf 0 _ rfl
 have q1 := hf 1 _ rfl
 have q2 := hf 2 _ rfl
 have q3 := hf 3 _ rfl
 have q4 := hf 4 _ rfl
 have q5 := hf 5 _ rfl
 have q6 := hf 6 _ rfl
 clear hf
 match xs, hlen with
 | [y0, y1, y2, y3, y4, y5, y6], _ =>
  have s0 : Tryz.prog.cellsOf 9 = 1 := by kernel_rfl
  have s1 : Tryz.prog.cellsOf 26 = 8 := by kernel_rfl
  have s2 : Tryz.prog.cellsOf 24 = 6 := by kernel_rfl
  have s3 : Tryz.prog.cellsOf 30 = 1 := by kernel_rfl
  have s4 : Tryz.prog.cellsOf 3 = 1 := by kernel_rfl
  replace q0 : DataW.trod enc Tryz.prog w base spare held n 9 [c0] = some y0 := by simpa [Value.cells, s0] using q0
  replace q1 : DataW.trod enc Tryz.prog w base spare held n 26 [c1, c2, c3, c4, c5, c6, c7, c8] = some y1 := by simpa [Value.cells, s1] using q1
  replace q2 : DataW.trod enc Tryz.prog w base spare held n 26 [c9, c10, c11, c12, c13, c14, c15, c16] = some y2 := by simpa [Value.cells, s1] using q2
  replace q3 : DataW.trod enc Tryz.prog w base spare held n 24 [c17, c18, c19, c20, c21, c22] = some y3 := by simpa [Value.cells, s2] using q3
  replace q4 : DataW.trod enc Tryz.prog w base spare held n 30 [c23] = some y4 := by simpa [Value.cells, s3] using q4
  replace q5 : DataW.trod enc Tryz.prog w base spare held n 3 [c24] = some y5 := by simpa [Value.cells, s4] using q5
  replace q6 : DataW.trod enc Tryz.prog w base spare held n 3 [c25] = some y6 := by simpa [Value.cells, s4] using q6
  obtain ⟨S0, e0, ey0, _⟩ := DataW.trod_string Tryz.underlying9 q0
  obtain ⟨a1, u1, u2, u3, e1, r1, r2, r3, b1⟩ := adr18 q1
  obtain ⟨a2, u4, u5, u6, e2, r4, r5, r6, b2⟩ := adr18 q2
  obtain ⟨a3, u7, u8, e3, r7, r8, b3⟩ := uri18 q3
  obtain ⟨L, r9, b4, b4'⟩ := strs18 q4
  obtain ⟨n5, e5, _, w5⟩ := DataW.trod_int Tryz.underlying3 q5
  obtain ⟨n6, e6, _, w6⟩ := DataW.trod_int Tryz.underlying3 q6
  simp only [List.cons.injEq, and_true] at e0 e1 e2 e3 e5 e6
  obtain ⟨rfl, rfl, rfl, rfl, rfl, rfl, rfl, rfl⟩ := e1
  obtain ⟨rfl, rfl, rfl, rfl, rfl, rfl, rfl, rfl⟩ := e2
  obtain ⟨rfl, rfl, rfl, rfl, rfl, rfl⟩ := e3
  subst e0 e5 e6
  have hd : Rows.uptoBulk d = Rows.uptoBulk y0.1 + (Rows.uptoBulk y1.1 + (Rows.uptoBulk y2.1 + (Rows.uptoBulk y3.1 + (Rows.uptoBulk y4.1 + (Rows.uptoBulk y5.1 + (Rows.uptoBulk y6.1 + 0)))))) + 1 := by
   rw [show d = (DataW.agg ([y0, y1, y2, y3, y4, y5, y6].map (·.1))) from congrArg Prod.fst hx]
   simp only [List.map_cons, List.map_nil, Rows.uptoBulk, Rows.uptoBulkAll]
  have h0 : S0.size ≤ Rows.uptoBulk y0.1 := by
   rw [ey0, Rows.uptoBulk]
   show S0.data.size ≤ S0.data.toList.length + 1
   rw [Array.length_toList]; omega
  refine ⟨_, ⟨us S0, a1, a2, a3, L, n5, n6⟩, rfl, ⟨c6, c7, c8, c14, c15, c16, c21, c22, c23, by rw [bs_us], r1, r2, r3, r4, r5, r6, r7, r8, r9⟩, ⟨b1.mono (by omega), b2.mono (by omega), ?_, b3.2.1, ?_, by dsimp only; omega, i64_of_wfA w5, i64_of_wfA w6⟩, ?_, ?_, ?_, ?_, ?_, ?_⟩
  ·have := b3.1.2.2; dsimp only; omega
  ·intro x hx; have := b4 x hx; omega
  ·have := b3.1.1; dsimp only; omega
  ·intro p hp; have := b3.2.2.1 p hp; omega
  ·intro p hp; have := b3.2.2.2.1 p hp; omega
  ·have := b3.2.2.2.2.1; dsimp only; omega
  ·have := b3.2.2.2.2.2; dsimp only; omega
  ·dsimp only; rw [length_us]; omega
end
end Go.Proofs.YtipdiddjhimdcaaGreatDoor
