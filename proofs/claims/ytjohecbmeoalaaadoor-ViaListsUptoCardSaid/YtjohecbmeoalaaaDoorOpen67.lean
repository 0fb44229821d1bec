/-
  Arguments opened: a message.
-/
import Derived.Test.YtjohecbmeoalaaaDoorOpen
import Derived.Test.YtjohecbmeoalaaaDoorAll7
import Derived.Deep.Slices
import Derived.Deep.Fields
import Derived.ChangeSame
namespace Go.Proofs.YtjohecbmeoalaaaDoor
open Go.ChangeShapes Go.WideShapes Go.ChangeAt Go.RowKit Go.Deep Go.Joins

/-- what a cell tells: a string's bytes -/
def rdSH (w : World) (a : Addr) : List UInt8 := match w.cell? a with | some (.string s) => us s | _ => []
def rdH (w : World) (b off i : Nat) : Hdr := ⟨rdSH w ⟨b, off + i * 2, none⟩, rdSH w ⟨b, off + i * 2 + 1, none⟩⟩
theorem array6 {α : Type} {cs : Array α} (h : cs.size = 6) : ∃ c0 c1 c2 c3 c4 c5, cs = #[c0, c1, c2, c3, c4, c5] := by
  obtain ⟨l⟩ := cs
  match l, h with
  | [c0, c1, c2, c3, c4, c5], _ => exact ⟨c0, c1, c2, c3, c4, c5, rfl⟩

section
variable {H : Type} {enc : TypeId × Value → H} {P : Program} {w : World} {base : Nat} {spare : Nat → Bool} {held : Bool}
theorem open_hdrs {t e : TypeId} {fuel : Nat} {v : Value} {x : DataW H × List MemPlace} {f0 f1 : Field} (ht : P.underlying t = some (.slice e)) (he : P.underlying e = some (.struct #[f0, f1]))
    (hone : oneCellFields P #[f0, f1] = true) (hC : P.cellsOf e = 2) (h0 : P.underlying f0.type = some .string) (h1 : P.underlying f1.type = some .string)
    (h : DataW.trod enc P w base spare held fuel t [v] = some x) :
    ∃ L, RHdrs w v L ∧ (∀ p ∈ L, p.name.length + p.value.length + 2 ≤ Rows.uptoBulk x.1) ∧ L.length ≤ Rows.uptoBulk x.1 := by
  rcases open_slice ht h with ⟨hcs, hx⟩ | ⟨a, len, cap, m, n, D, Pl, hcs, hb, hl, hm, hmm, hx, hi⟩
  · simp only [List.cons.injEq, and_true] at hcs
    subst hcs hx
    exact ⟨[], .inl ⟨⟨_, _, rfl⟩, rfl⟩, ⟨(fun p hp => by simp at hp), Nat.zero_le _⟩⟩
  · simp only [List.cons.injEq, and_true] at hcs
    subst hcs
    have hlm : len ≤ m := by rw [hmm]; split <;> omega
    have each : ∀ i, i < m → ∃ (s0 s1 : ByteArray), w.cell? (a.add (i * 2)) = some (.string s0) ∧ w.cell? (a.add (i * 2 + 1)) = some (.string s1) ∧
        Rows.uptoBulk (D i) = (s0.size + 1) + ((s1.size + 1) + 0) + 1 := by
      intro i him
      obtain ⟨cs', hc, ht'⟩ := hi i him
      rw [hC] at hc
      obtain ⟨ys, n', hn', hy, hlen, hyl, hf⟩ := DataW.trod_struct he ht'
      obtain ⟨_, hcl, hat⟩ := World.cells?_some hc
      simp only [Prod.mk.injEq] at hy
      have part : ∀ (j : Nat) (f : Field), (#[f0, f1] : Array Field)[j]? = some f → ∃ (v : Value) (y : DataW H × List MemPlace), w.cell? (a.add (i * 2 + j)) = some v ∧ ys[j]? = some y ∧ DataW.trod enc P w base spare held n' f.type [v] = some y := by
        intro j f hj
        obtain ⟨ho, hk⟩ := hone_of hone j f hj
        have hjl : j < 2 := (Array.getElem?_eq_some_iff.1 hj).1
        have hcell := hat j hjl
        have hv : cs'[j]? = some (cs'[j]'(by omega)) := List.getElem?_eq_getElem (by omega)
        have h1 := hf j f hj
        rw [ho, hk] at h1
        have hone' : (cs'.drop j).take 1 = [cs'[j]'(by omega)] := by
          rw [List.drop_eq_getElem_cons (by omega)]; rfl
        rw [hone'] at h1
        have hys : ys[j]? = some (ys[j]'(by rw [hyl]; exact hjl)) := List.getElem?_eq_getElem (by rw [hyl]; exact hjl)
        refine ⟨_, _, ?_, hys, h1.trans hys⟩
        rw [add_add] at hcell
        rw [hcell, hv]
      obtain ⟨v0, y0, c0, e0, t0⟩ := part 0 f0 rfl
      obtain ⟨v1, y1, c1, e1, t1⟩ := part 1 f1 rfl
      obtain ⟨s0, g0, rfl, _⟩ := DataW.trod_string h0 t0
      obtain ⟨s1, g1, rfl, _⟩ := DataW.trod_string h1 t1
      simp only [List.cons.injEq, and_true] at g0 g1
      subst g0 g1
      refine ⟨s0, s1, c0, c1, ?_⟩
      have hys : ys = [(.lit (.string s0.data.toList), []), (.lit (.string s1.data.toList), [])] := by
        match ys, hyl, e0, e1 with
        | [z0, z1], _, e0, e1 =>
          simp at e0 e1
          rw [e0, e1]
      rw [hy.1, hys]
      show Rows.uptoBulk (DataW.agg [.lit (.string s0.data.toList), .lit (.string s1.data.toList)]) = _
      simp only [Rows.uptoBulk, Rows.uptoBulkAll, Array.length_toList]
      rfl
    rw [hx]
    rcases Nat.eq_zero_or_pos len with hz | hz
    · subst hz
      exact ⟨[], .inl ⟨⟨_, _, rfl⟩, rfl⟩, ⟨(fun p hp => by simp at hp), Nat.zero_le _⟩⟩
    · obtain ⟨s0, s1, c0, _⟩ := each 0 (by omega)
      rw [Nat.zero_mul, show a.add 0 = a from rfl] at c0
      obtain ⟨ha, hblt⟩ := addr_of_cell c0
      obtain ⟨ab, ao, asp⟩ := a
      simp only [Addr.mk.injEq, true_and] at ha
      subst ha
      have hF : ∀ i, i < len → w.cell? ⟨ab, ao + i * 2, none⟩ = some (sv (rdH w ab ao i).name) ∧ w.cell? ⟨ab, ao + i * 2 + 1, none⟩ = some (sv (rdH w ab ao i).value) ∧
          (rdH w ab ao i).name.length + (rdH w ab ao i).value.length + 3 ≤ Rows.uptoBulk (D i) := by
        intro i hil
        obtain ⟨s0, s1, c0, c1, hbk⟩ := each i (by omega)
        rw [add_at] at c0 c1
        rw [← Nat.add_assoc] at c1
        unfold rdH rdSH sv
        rw [c0, c1, hbk]
        simp only [bs_us, length_us]
        exact ⟨trivial, trivial, by omega⟩
      refine ⟨(List.range len).map (rdH w ab ao), .inr ⟨ab, ao, cap, by rw [List.length_map, List.length_range], by rw [List.length_map, List.length_range]; exact hl, hm, hblt, fun j hj => ?_⟩, ?_, ?_⟩
      · rw [List.length_map, List.length_range] at hj
        rw [List.getElem_map, List.getElem_range]
        exact ⟨(hF j hj).1, (hF j hj).2.1⟩
      · intro p hp
        obtain ⟨i, hi', rfl⟩ := List.mem_map.1 hp
        have hil := List.mem_range.1 hi'
        have h3 := (hF i hil).2.2
        have h4 := bulk_mem ((List.range len).map D) (D i) (List.mem_map.2 ⟨i, hi', rfl⟩)
        rw [Rows.uptoBulk]; omega
      · rw [List.length_map, List.length_range, Rows.uptoBulk]
        have h5 := bulk_len ((List.range len).map D) (fun d hd => by
          obtain ⟨i, hi', rfl⟩ := List.mem_map.1 hd
          have := (hF i (List.mem_range.1 hi')).2.2
          omega)
        rw [List.length_map, List.length_range] at h5
        omega

theorem open_agg6 {r : Reach} {b0 : Nat} {t : TypeId} {f0 f1 f2 f3 f4 f5 : Field} {v : Value} {d : DataW H} {p : List MemPlace} (hs : P.underlying t = some (.struct #[f0, f1, f2, f3, f4, f5])) (hone : oneCellFields P #[f0, f1, f2, f3, f4, f5] = true) (hC : P.cellsOf t = 6)
    (hv : Value.okWide P w r b0 t v) (h : DataW.Trod enc P w base spare held t v d p) :
    ∃ (v0 v1 v2 v3 v4 v5 : Value) (y0 y1 y2 y3 y4 y5 : DataW H × List MemPlace) (n : Nat), v = .agg #[v0, v1, v2, v3, v4, v5] ∧ d = .agg [y0.1, y1.1, y2.1, y3.1, y4.1, y5.1] ∧
      DataW.trod enc P w base spare held n f0.type [v0] = some y0 ∧ DataW.trod enc P w base spare held n f1.type [v1] = some y1 ∧ DataW.trod enc P w base spare held n f2.type [v2] = some y2 ∧ DataW.trod enc P w base spare held n f3.type [v3] = some y3 ∧
      DataW.trod enc P w base spare held n f4.type [v4] = some y4 ∧ DataW.trod enc P w base spare held n f5.type [v5] = some y5 := by
  obtain ⟨cs, rfl, hsz⟩ := okWide_struct hs hv
  obtain ⟨c0, c1, c2, c3, c4, c5, rfl⟩ := array6 (hsz.trans hC)
  obtain ⟨fuel, hf⟩ := h
  obtain ⟨xs, n, _, hx, hl, hlen, hf⟩ := DataW.trod_struct hs hf
  obtain ⟨o0, k0⟩ := hone_of hone 0 f0 rfl
  obtain ⟨o1, k1⟩ := hone_of hone 1 f1 rfl
  obtain ⟨o2, k2⟩ := hone_of hone 2 f2 rfl
  obtain ⟨o3, k3⟩ := hone_of hone 3 f3 rfl
  obtain ⟨o4, k4⟩ := hone_of hone 4 f4 rfl
  obtain ⟨o5, k5⟩ := hone_of hone 5 f5 rfl
  have g0 := hf 0 f0 rfl
  have g1 := hf 1 f1 rfl
  have g2 := hf 2 f2 rfl
  have g3 := hf 3 f3 rfl
  have g4 := hf 4 f4 rfl
  have g5 := hf 5 f5 rfl
  clear hf hone
  match xs, hlen with
  | [y0, y1, y2, y3, y4, y5], _ =>
    simp only [Prod.mk.injEq] at hx
    exact ⟨c0, c1, c2, c3, c4, c5, y0, y1, y2, y3, y4, y5, n, rfl, hx.1, by simpa [Value.cells, o0, k0] using g0, by simpa [Value.cells, o1, k1] using g1, by simpa [Value.cells, o2, k2] using g2, by simpa [Value.cells, o3, k3] using g3, by simpa [Value.cells, o4, k4] using g4, by simpa [Value.cells, o5, k5] using g5⟩
/-- a message, by value -/
theorem open_msg {t : TypeId} {f0 f1 f2 f3 f4 f5 : Field} {v : Value} {d : DataW H} {p : List MemPlace} {r : Reach} {b0 : Nat} {e : TypeId} {g0 g1 : Field} (hs : P.underlying t = some (.struct #[f0, f1, f2, f3, f4, f5])) (hone : oneCellFields P #[f0, f1, f2, f3, f4, f5] = true) (hC : P.cellsOf t = 6)
    (h0 : P.underlying f0.type = some .string) (h1 : P.underlying f1.type = some .string) (h2 : P.underlying f2.type = some (.int .i64)) (h3 : P.underlying f3.type = some .string) (h4 : P.underlying f4.type = some (.slice e)) (h5 : P.underlying f5.type = some .string)
    (he : P.underlying e = some (.struct #[g0, g1])) (hone' : oneCellFields P #[g0, g1] = true) (hC' : P.cellsOf e = 2) (k0 : P.underlying g0.type = some .string) (k1 : P.underlying g1.type = some .string)
    (hv : Value.okWide P w r b0 t v) (h : DataW.Trod enc P w base spare held t v d p) :
    ∃ (M T : ByteArray) (x : Int) (R : ByteArray) (u : Value) (B : ByteArray) (F : List Hdr), v = .agg #[.string M, .string T, .int .i64 x, .string R, u, .string B] ∧ (Lit.int .i64 x).wf = true ∧ RHdrs w u F ∧
      M.size + T.size + R.size + B.size ≤ Rows.uptoBulk d ∧ (∀ p ∈ F, p.name.length ≤ Rows.uptoBulk d ∧ p.value.length ≤ Rows.uptoBulk d) ∧ F.length ≤ Rows.uptoBulk d := by
  obtain ⟨v0, v1, v2, v3, v4, v5, y0, y1, y2, y3, y4, y5, n, rfl, rfl, q0, q1, q2, q3, q4, q5⟩ := open_agg6 hs hone hC hv h
  obtain ⟨M, e0, rfl, _⟩ := DataW.trod_string h0 q0
  obtain ⟨T, e1, rfl, _⟩ := DataW.trod_string h1 q1
  obtain ⟨x, e2, rfl, hw⟩ := DataW.trod_int h2 q2
  obtain ⟨R, e3, rfl, _⟩ := DataW.trod_string h3 q3
  obtain ⟨F, hF, hb, hn⟩ := open_hdrs h4 he hone' hC' k0 k1 q4
  obtain ⟨B, e5, rfl, _⟩ := DataW.trod_string h5 q5
  simp only [List.cons.injEq, and_true] at e0 e1 e2 e3 e5
  subst e0 e1 e2 e3 e5
  have hd : Rows.uptoBulk (DataW.agg [(.lit (.string M.data.toList) : DataW H), .lit (.string T.data.toList), .lit (.int .i64 x), .lit (.string R.data.toList), y4.1, .lit (.string B.data.toList)]) =
      (M.size + 1) + ((T.size + 1) + (1 + ((R.size + 1) + (Rows.uptoBulk y4.1 + ((B.size + 1) + 0))))) + 1 := by
    simp only [Rows.uptoBulk, Rows.uptoBulkAll, Array.length_toList]; rfl
  refine ⟨M, T, x, R, v4, B, F, rfl, hw, hF, ?_, ?_, ?_⟩
  · rw [hd]; omega
  · intro p hp
    have := hb p hp
    rw [hd]; omega
  · rw [hd]; omega
end

end Go.Proofs.YtjohecbmeoalaaaDoor
