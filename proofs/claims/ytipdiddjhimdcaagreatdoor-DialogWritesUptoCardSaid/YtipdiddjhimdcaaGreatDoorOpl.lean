/- Contracts of Go functions, and plain laws. No condition but those told. -/
import Derived.Test.YtipdiddjhimdcaaGreatDoorOpas
set_option linter.unusedSimpArgs false
set_option linter.unusedVariables false
set_option maxRecDepth 100000
namespace Go.Proofs.YtipdiddjhimdcaaGreatDoor
open Go.ChangeShapes Go.WideShapes Go.ChangeAt Go.RowKit Go.Deep Go.Joins
def AdrBdL (B : Nat) (a : Adr) : Prop :=
 (a.disp.length ≤ B ∧ a.uri.scheme.length ≤ B ∧ a.uri.user.length ≤ B ∧ a.uri.host.length ≤ B) ∧ (-9223372036854775808 ≤ a.uri.port ∧ a.uri.port ≤ 9223372036854775807) ∧
 (∀ p ∈ a.uri.ps, p.name.length ≤ B ∧ p.value.length ≤ B) ∧ (∀ p ∈ a.uri.hs, p.name.length ≤ B ∧ p.value.length ≤ B) ∧ (∀ p ∈ a.ps, p.name.length ≤ B ∧ p.value.length ≤ B) ∧ a.uri.ps.length ≤ B ∧ a.uri.hs.length ≤ B ∧ a.ps.length ≤ B
theorem AdrBdL.mono {B B' : Nat} {a : Adr} (h : AdrBdL B a) (hB : B ≤ B') : AdrBdL B' a := by
 obtain ⟨⟨h1, h2, h3, h4⟩, h5, h6, h7, h8, h9, h10, h11⟩ := h
 exact ⟨⟨by omega, by omega, by omega, by omega⟩, h5, fun p hp => by have := h6 p hp; omega, fun p hp => by have := h7 p hp; omega, fun p hp => by have := h8 p hp; omega, by omega, by omega, by omega⟩
section
variable {H : Type} {enc : TypeId × Value → H} {P : Program} {w : World} {base : Nat} {spare : Nat → Bool} {held : Bool}
theorem open_uriL {t : TypeId} {f0 f1 f2 f3 f4 f5 : Field} {c0 c1 c2 c3 c4 c5 : Value} {fuel : Nat} {x : DataW H × List MemPlace} {e : TypeId} {g0 g1 g2 : Field} (hs : P.underlying t = some (.struct #[f0, f1, f2, f3, f4, f5])) (hone : oneCellFields P #[f0, f1, f2, f3, f4, f5] = true)
  (h0 : P.underlying f0.type = some .string) (h1 : P.underlying f1.type = some .string) (h2 : P.underlying f2.type = some .string) (h3 : P.underlying f3.type = some (.int .i64)) (h4 : P.underlying f4.type = some (.slice e)) (h5 : P.underlying f5.type = some (.slice e))
  (he : P.underlying e = some (.struct #[g0, g1, g2])) (hone' : oneCellFields P #[g0, g1, g2] = true) (hC' : P.cellsOf e = 3) (k0 : P.underlying g0.type = some .string) (k1 : P.underlying g1.type = some .string) (k2 : P.underlying g2.type = some .bool)
  (h : DataW.trod enc P w base spare held fuel t [c0, c1, c2, c3, c4, c5] = some x) :
  ∃ (S U T : ByteArray) (n : Int) (F G : List Prm), c0 = .string S ∧ c1 = .string U ∧ c2 = .string T ∧ c3 = .int .i64 n ∧ (Lit.int .i64 n).wf = true ∧ RPrms w c4 F ∧ RPrms w c5 G ∧ S.size + U.size + T.size ≤ Rows.uptoBulk x.1 ∧
   (∀ p ∈ F, p.name.length ≤ Rows.uptoBulk x.1 ∧ p.value.length ≤ Rows.uptoBulk x.1) ∧ (∀ p ∈ G, p.name.length ≤ Rows.uptoBulk x.1 ∧ p.value.length ≤ Rows.uptoBulk x.1) ∧
   F.length ≤ Rows.uptoBulk x.1 ∧ G.length ≤ Rows.uptoBulk x.1 := by
 obtain ⟨xs, n, _, hx, hl, hlen, hf⟩ := DataW.trod_struct hs h
 obtain ⟨o0, z0⟩ := hone_of hone 0 f0 rfl
 obtain ⟨o1, z1⟩ := hone_of hone 1 f1 rfl
 obtain ⟨o2, z2⟩ := hone_of hone 2 f2 rfl
 obtain ⟨o3, z3⟩ := hone_of hone 3 f3 rfl
 obtain ⟨o4, z4⟩ := hone_of hone 4 f4 rfl
 obtain ⟨o5, z5⟩ := hone_of hone 5 f5 rfl
 have q0 := hf 0 f0 rfl
 have q1 := hf 1 f1 rfl
 have q2 := hf 2 f2 rfl
 have q3 := hf 3 f3 rfl
 have q4 := hf 4 f4 rfl
 have q5 := hf 5 f5 rfl
 clear hf hone
 match xs, hlen with
 | [y0, y1, y2, y3, y4, y5], _ =>
  replace q0 : DataW.trod enc P w base spare held n f0.type [c0] = some y0 := by simpa [o0, z0] using q0
  replace q1 : DataW.trod enc P w base spare held n f1.type [c1] = some y1 := by simpa [o1, z1] using q1
  replace q2 : DataW.trod enc P w base spare held n f2.type [c2] = some y2 := by simpa [o2, z2] using q2
  replace q3 : DataW.trod enc P w base spare held n f3.type [c3] = some y3 := by simpa [o3, z3] using q3
  replace q4 : DataW.trod enc P w base spare held n f4.type [c4] = some y4 := by simpa [o4, z4] using q4
  replace q5 : DataW.trod enc P w base spare held n f5.type [c5] = some y5 := by simpa [o5, z5] using q5
  obtain ⟨S, e0, rfl, _⟩ := DataW.trod_string h0 q0
  obtain ⟨U, e1, rfl, _⟩ := DataW.trod_string h1 q1
  obtain ⟨T, e2, rfl, _⟩ := DataW.trod_string h2 q2
  obtain ⟨m, e3, rfl, hw⟩ := DataW.trod_int h3 q3
  obtain ⟨F, hF, bF, lF⟩ := open_prms h4 he hone' hC' k0 k1 k2 q4
  obtain ⟨G, hG, bG, lG⟩ := open_prms h5 he hone' hC' k0 k1 k2 q5
  simp only [List.cons.injEq, and_true] at e0 e1 e2 e3
  have hd : Rows.uptoBulk x.1 = (S.size + 1) + ((U.size + 1) + ((T.size + 1) + (1 + (Rows.uptoBulk y4.1 + (Rows.uptoBulk y5.1 + 0))))) + 1 := by
   rw [hx]
   simp only [List.map_cons, List.map_nil, Rows.uptoBulk, Rows.uptoBulkAll, Array.length_toList]; rfl
  refine ⟨S, U, T, m, F, G, e0, e1, e2, e3, hw, hF, hG, by rw [hd]; omega, fun p hp => ?_, fun p hp => ?_, by rw [hd]; omega, by rw [hd]; omega⟩
  ·have := bF p hp
   rw [hd]; omega
  ·have := bG p hp
   rw [hd]; omega
theorem open_adrL {t : TypeId} {a0 a1 a2 : Field} {f0 f1 f2 f3 f4 f5 : Field} {c0 c1 c2 c3 c4 c5 c6 c7 : Value} {fuel : Nat} {x : DataW H × List MemPlace} {e : TypeId} {g0 g1 g2 : Field} (hA : P.underlying t = some (.struct #[a0, a1, a2]))
  (oa : a0.offset = 0 ∧ P.cellsOf a0.type = 1 ∧ a1.offset = 1 ∧ P.cellsOf a1.type = 6 ∧ a2.offset = 7 ∧ P.cellsOf a2.type = 1) (r0 : P.underlying a0.type = some .string) (r2 : P.underlying a2.type = some (.slice e))
  (hs : P.underlying a1.type = some (.struct #[f0, f1, f2, f3, f4, f5])) (hone : oneCellFields P #[f0, f1, f2, f3, f4, f5] = true)
  (h0 : P.underlying f0.type = some .string) (h1 : P.underlying f1.type = some .string) (h2 : P.underlying f2.type = some .string) (h3 : P.underlying f3.type = some (.int .i64)) (h4 : P.underlying f4.type = some (.slice e)) (h5 : P.underlying f5.type = some (.slice e))
  (he : P.underlying e = some (.struct #[g0, g1, g2])) (hone' : oneCellFields P #[g0, g1, g2] = true) (hC' : P.cellsOf e = 3) (k0 : P.underlying g0.type = some .string) (k1 : P.underlying g1.type = some .string) (k2 : P.underlying g2.type = some .bool)
  (h : DataW.trod enc P w base spare held fuel t [c0, c1, c2, c3, c4, c5, c6, c7] = some x) :
  ∃ (D S U T : ByteArray) (n : Int) (F G L : List Prm), c0 = .string D ∧ c1 = .string S ∧ c2 = .string U ∧ c3 = .string T ∧ c4 = .int .i64 n ∧ (Lit.int .i64 n).wf = true ∧ RPrms w c5 F ∧ RPrms w c6 G ∧ RPrms w c7 L ∧ D.size + S.size + U.size + T.size ≤ Rows.uptoBulk x.1 ∧
   (∀ p ∈ F, p.name.length ≤ Rows.uptoBulk x.1 ∧ p.value.length ≤ Rows.uptoBulk x.1) ∧ (∀ p ∈ G, p.name.length ≤ Rows.uptoBulk x.1 ∧ p.value.length ≤ Rows.uptoBulk x.1) ∧ (∀ p ∈ L, p.name.length ≤ Rows.uptoBulk x.1 ∧ p.value.length ≤ Rows.uptoBulk x.1) ∧
   F.length ≤ Rows.uptoBulk x.1 ∧ G.length ≤ Rows.uptoBulk x.1 ∧ L.length ≤ Rows.uptoBulk x.1 ∧ U.size ≤ Rows.uptoBulk x.1 := by
 obtain ⟨xs, n, _, hx, hl, hlen, hf⟩ := DataW.trod_struct hA h
 obtain ⟨o0, z0, o1, z1, o2, z2⟩ := oa
 have q0 := hf 0 a0 rfl
 have q1 := hf 1 a1 rfl
 have q2 := hf 2 a2 rfl
 clear hf
 match xs, hlen with
 | [y0, y1, y2], _ =>
  replace q0 : DataW.trod enc P w base spare held n a0.type [c0] = some y0 := by simpa [o0, z0] using q0
  replace q1 : DataW.trod enc P w base spare held n a1.type [c1, c2, c3, c4, c5, c6] = some y1 := by simpa [o1, z1] using q1
  replace q2 : DataW.trod enc P w base spare held n a2.type [c7] = some y2 := by simpa [o2, z2] using q2
  obtain ⟨D, e0, rfl, _⟩ := DataW.trod_string r0 q0
  obtain ⟨S, U, T, m, F, G, b0, b1, b2, b3, hw, hF, hG, bz, bF, bG, lF, lG⟩ := open_uriL hs hone h0 h1 h2 h3 h4 h5 he hone' hC' k0 k1 k2 q1
  obtain ⟨L, hL, bL, lL⟩ := open_prms r2 he hone' hC' k0 k1 k2 q2
  simp only [List.cons.injEq, and_true] at e0
  have hd : Rows.uptoBulk x.1 = (D.size + 1) + (Rows.uptoBulk y1.1 + (Rows.uptoBulk y2.1 + 0)) + 1 := by
   rw [hx]
   simp only [List.map_cons, List.map_nil, Rows.uptoBulk, Rows.uptoBulkAll, Array.length_toList]; rfl
  refine ⟨D, S, U, T, m, F, G, L, e0, b0, b1, b2, b3, hw, hF, hG, hL, by rw [hd]; omega, fun p hp => ?_, fun p hp => ?_, fun p hp => ?_, by rw [hd]; omega, by rw [hd]; omega, by rw [hd]; omega, by rw [hd]; omega⟩
  ·have := bF p hp
   rw [hd]; omega
  ·have := bG p hp
   rw [hd]; omega
  ·have := bL p hp
   rw [hd]; omega
end
end Go.Proofs.YtipdiddjhimdcaaGreatDoor
