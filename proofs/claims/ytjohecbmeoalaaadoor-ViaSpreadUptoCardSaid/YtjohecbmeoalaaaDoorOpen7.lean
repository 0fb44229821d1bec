/-
  Arguments opened: a hop, a slice of hops.
-/
import Derived.Test.YtjohecbmeoalaaaDoorOpen2
import Derived.Test.YtjohecbmeoalaaaDoorHop
namespace Go.Proofs.YtjohecbmeoalaaaDoor
open Go.ChangeShapes Go.WideShapes Go.ChangeAt Go.RowKit Go.Deep Go.Joins

theorem list_of_each {α : Type} (P : Nat → α → Prop) : ∀ n, (∀ i, i < n → ∃ x, P i x) → ∃ L : List α, L.length = n ∧ ∀ j (hj : j < L.length), P j L[j]
  | 0, _ => ⟨[], rfl, fun j hj => absurd hj (Nat.not_lt_zero _)⟩
  | n + 1, h => by
    obtain ⟨L, hl, hL⟩ := list_of_each P n (fun i hi => h i (by omega))
    obtain ⟨x, hx⟩ := h n (by omega)
    refine ⟨L ++ [x], by rw [List.length_append, hl]; rfl, fun j hj => ?_⟩
    rw [List.length_append, List.length_singleton] at hj
    rcases Nat.lt_or_ge j L.length with h1 | h1
    · rw [List.getElem_append_left h1]; exact hL j h1
    · have : j = L.length := by omega
      subst this
      rw [List.getElem_concat_length rfl, hl]; exact hx

section
variable {H : Type} {enc : TypeId × Value → H} {P : Program} {w : World} {base : Nat} {spare : Nat → Bool} {held : Bool}
theorem i64_of_wf {n : Int} (h : (Lit.int .i64 n).wf = true) : -9223372036854775808 ≤ n ∧ n ≤ 9223372036854775807 := by
  simp [Lit.wf, IntKind.min, IntKind.max, IntKind.signed, IntKind.bits] at h; omega
/-- a hop, by value -/
theorem open_via {t : TypeId} {f0 f1 f2 : Field} {v : Value} {d : DataW H} {p : List MemPlace} {r : Reach} {b0 : Nat} {e : TypeId} {g0 g1 g2 : Field} (hs : P.underlying t = some (.struct #[f0, f1, f2])) (hone : oneCellFields P #[f0, f1, f2] = true) (hC : P.cellsOf t = 3)
    (h0 : P.underlying f0.type = some .string) (h1 : P.underlying f1.type = some (.int .i64)) (h2 : P.underlying f2.type = some (.slice e)) (he : P.underlying e = some (.struct #[g0, g1, g2])) (hone' : oneCellFields P #[g0, g1, g2] = true) (hC' : P.cellsOf e = 3)
    (k0 : P.underlying g0.type = some .string) (k1 : P.underlying g1.type = some .string) (k2 : P.underlying g2.type = some .bool)
    (hv : Value.okWide P w r b0 t v) (h : DataW.Trod enc P w base spare held t v d p) :
    ∃ (N : ByteArray) (x : Int) (u : Value) (F : List Prm), v = .agg #[.string N, .int .i64 x, u] ∧ (Lit.int .i64 x).wf = true ∧ RPrms w u F ∧ N.size ≤ Rows.uptoBulk d ∧ (∀ p ∈ F, p.name.length ≤ Rows.uptoBulk d ∧ p.value.length ≤ Rows.uptoBulk d) ∧ F.length ≤ Rows.uptoBulk d := by
  obtain ⟨v0, v1, v2, y0, y1, y2, n, rfl, rfl, _, q0, q1, q2⟩ := open_agg3 hs hone hC hv h
  obtain ⟨N, e0, rfl, _⟩ := DataW.trod_string h0 q0
  obtain ⟨x, e1, rfl, hw⟩ := DataW.trod_int h1 q1
  obtain ⟨F, hF, hb, hn⟩ := open_prms h2 he hone' hC' k0 k1 k2 q2
  simp only [List.cons.injEq, and_true] at e0 e1
  subst e0 e1
  have hd : Rows.uptoBulk (DataW.agg [(.lit (.string N.data.toList) : DataW H), .lit (.int .i64 x), y2.1]) = (N.size + 1) + (1 + (Rows.uptoBulk y2.1 + 0)) + 1 := by
    simp only [Rows.uptoBulk, Rows.uptoBulkAll, Array.length_toList]; rfl
  refine ⟨N, x, v2, F, rfl, hw, hF, ?_, ?_, ?_⟩
  · rw [hd]; omega
  · intro p hp
    have := hb p hp
    rw [hd]; omega
  · rw [hd]; omega
theorem open_vias {t e : TypeId} {f0 f1 f2 : Field} {v : Value} {d : DataW H} {p : List MemPlace} {r : Reach} {b0 : Nat} {e' : TypeId} {g0 g1 g2 : Field} (ht : P.underlying t = some (.slice e)) (hs : P.underlying e = some (.struct #[f0, f1, f2])) (hone : oneCellFields P #[f0, f1, f2] = true) (hC : P.cellsOf e = 3)
    (h0 : P.underlying f0.type = some .string) (h1 : P.underlying f1.type = some (.int .i64)) (h2 : P.underlying f2.type = some (.slice e')) (he : P.underlying e' = some (.struct #[g0, g1, g2])) (hone' : oneCellFields P #[g0, g1, g2] = true) (hC' : P.cellsOf e' = 3)
    (k0 : P.underlying g0.type = some .string) (k1 : P.underlying g1.type = some .string) (k2 : P.underlying g2.type = some .bool)
    (hv : Value.okWide P w r b0 t v) (h : DataW.Trod enc P w base spare held t v d p) :
    ∃ L, RHops w v L ∧ (∀ v ∈ L, v.host.length ≤ Rows.uptoBulk d ∧ (-9223372036854775808 ≤ v.port ∧ v.port ≤ 9223372036854775807) ∧ ∀ p ∈ v.ps, p.name.length ≤ Rows.uptoBulk d ∧ p.value.length ≤ Rows.uptoBulk d) ∧ L.length ≤ Rows.uptoBulk d := by
  obtain ⟨a0, len0, cap0, rfl⟩ := okWide_slice ht hv
  obtain ⟨fuel, hf⟩ := h
  rcases open_slice ht hf with ⟨hcs, hx⟩ | ⟨a, len, cap, m, n, D, Pl, hcs, hb, hl, hm, hmm, hx, hi⟩
  · simp [Value.cells] at hcs
    obtain ⟨rfl, rfl, rfl⟩ := hcs
    exact ⟨[], .inl ⟨⟨_, _, rfl⟩, rfl⟩, ⟨(fun p hp => by simp at hp), Nat.zero_le _⟩⟩
  · simp [Value.cells] at hcs
    obtain ⟨rfl, rfl, rfl⟩ := hcs
    have hlm : len0 ≤ m := by rw [hmm]; split <;> omega
    have each : ∀ i, i < m → ∃ (q : Hop), w.cell? (a.add (i * 3)) = some (sv q.host) ∧ w.cell? (a.add (i * 3 + 1)) = some (.int .i64 q.port) ∧ (∃ u, w.cell? (a.add (i * 3 + 2)) = some u ∧ RPrms w u q.ps) ∧
        q.host.length + 1 ≤ Rows.uptoBulk (D i) ∧ (-9223372036854775808 ≤ q.port ∧ q.port ≤ 9223372036854775807) ∧ ∀ p ∈ q.ps, p.name.length ≤ Rows.uptoBulk (D i) ∧ p.value.length ≤ Rows.uptoBulk (D i) := by
      intro i him
      obtain ⟨cs', hc, ht'⟩ := hi i him
      rw [hC] at hc
      obtain ⟨ys, n', hn', hy, hlen, hyl, hf⟩ := DataW.trod_struct hs ht'
      obtain ⟨_, hcl, hat⟩ := World.cells?_some hc
      simp only [Prod.mk.injEq] at hy
      have part : ∀ (j : Nat) (f : Field), (#[f0, f1, f2] : Array Field)[j]? = some f → ∃ (v : Value) (y : DataW H × List MemPlace), w.cell? (a.add (i * 3 + j)) = some v ∧ ys[j]? = some y ∧ DataW.trod enc P w base spare held n' f.type [v] = some y := by
        intro j f hj
        obtain ⟨ho, hk⟩ := hone_of hone j f hj
        have hjl : j < 3 := (Array.getElem?_eq_some_iff.1 hj).1
        have hcell := hat j hjl
        have hv : cs'[j]? = some (cs'[j]'(by omega)) := List.getElem?_eq_getElem (by omega)
        have h1 := hf j f hj
        rw [ho, hk] at h1
        have hone' : (cs'.drop j).take 1 = [cs'[j]'(by omega)] := by
          rw [List.drop_eq_getElem_cons (by omega)]; rfl
        rw [hone'] at h1
        have hys : ys[j]? = some (ys[j]'(by rw [hyl]; exact hjl)) := List.getElem?_eq_getElem (by rw [hyl]; exact hjl)
        refine ⟨_, _, ?_, hys, h1.trans hys⟩
        rw [add_add] at hcell
        rw [hcell, hv]
      obtain ⟨v0, y0, c0, e0, t0⟩ := part 0 f0 rfl
      obtain ⟨v1, y1, c1, e1, t1⟩ := part 1 f1 rfl
      obtain ⟨v2, y2, c2, e2, t2⟩ := part 2 f2 rfl
      obtain ⟨s0, q0, rfl, _⟩ := DataW.trod_string h0 t0
      obtain ⟨x, q1, rfl, hw⟩ := DataW.trod_int h1 t1
      obtain ⟨F, hF, hbF, _⟩ := open_prms h2 he hone' hC' k0 k1 k2 t2
      simp only [List.cons.injEq, and_true] at q0 q1
      subst q0 q1
      have hys : ys = [(.lit (.string s0.data.toList), []), (.lit (.int .i64 x), []), y2] := by
        match ys, hyl, e0, e1, e2 with
        | [z0, z1, z2], _, e0, e1, e2 =>
          simp at e0 e1 e2
          rw [e0, e1, e2]
      have hd : Rows.uptoBulk (D i) = (s0.size + 1) + (1 + (Rows.uptoBulk y2.1 + 0)) + 1 := by
        rw [hy.1, hys]
        show Rows.uptoBulk (DataW.agg [(.lit (.string s0.data.toList) : DataW H), .lit (.int .i64 x), y2.1]) = _
        simp only [Rows.uptoBulk, Rows.uptoBulkAll, Array.length_toList]; rfl
      refine ⟨⟨us s0, x, F⟩, ?_, c1, ⟨v2, c2, hF⟩, ?_, i64_of_wf hw, ?_⟩
      · rw [Nat.add_zero] at c0; rw [c0]; unfold sv; rw [bs_us]
      · show (us s0).length + 1 ≤ _
        rw [length_us, hd]; omega
      · intro p hp
        have := hbF p hp
        rw [hd]; omega
    have hx1 := congrArg Prod.fst hx
    dsimp only at hx1
    rw [hx1]
    rcases Nat.eq_zero_or_pos len0 with hz | hz
    · subst hz
      exact ⟨[], .inl ⟨⟨_, _, rfl⟩, rfl⟩, ⟨(fun p hp => by simp at hp), Nat.zero_le _⟩⟩
    · obtain ⟨L, hL, hLP⟩ := list_of_each _ len0 (fun i hi => each i (by omega))
      obtain ⟨c0, _⟩ := hLP 0 (by omega)
      rw [Nat.zero_mul, show a.add 0 = a from rfl] at c0
      obtain ⟨ha, hblt⟩ := addr_of_cell c0
      obtain ⟨ab, ao, asp⟩ := a
      simp only [Addr.mk.injEq, true_and] at ha
      subst ha
      refine ⟨L, .inr ⟨ab, ao, cap0, by rw [hL], by rw [hL]; exact hl, hm, hblt, fun j hj => ?_⟩, ?_, ?_⟩
      · obtain ⟨c0, c1, ⟨u, c2, hu⟩, _⟩ := hLP j hj
        rw [add_at] at c0 c1 c2
        rw [← Nat.add_assoc] at c1 c2
        exact ⟨c0, c1, u, c2, hu⟩
      · intro q hq
        obtain ⟨i, hi', rfl⟩ := List.getElem_of_mem hq
        obtain ⟨_, _, _, h3, h4, h5⟩ := hLP i hi'
        have h6 := bulk_mem ((List.range len0).map D) (D i) (List.mem_map.2 ⟨i, List.mem_range.2 (by omega), rfl⟩)
        refine ⟨?_, h4, fun p hp => ?_⟩
        · rw [Rows.uptoBulk]; omega
        · have := h5 p hp
          rw [Rows.uptoBulk]; omega
      · rw [hL, Rows.uptoBulk]
        have h5 := bulk_len ((List.range len0).map D) (fun d hd => by
          obtain ⟨i, hi', rfl⟩ := List.mem_map.1 hd
          obtain ⟨_, _, _, h3, _⟩ := hLP i (by rw [hL]; exact List.mem_range.1 hi')
          omega)
        rw [List.length_map, List.length_range] at h5
        omega
end

end Go.Proofs.YtjohecbmeoalaaaDoor
