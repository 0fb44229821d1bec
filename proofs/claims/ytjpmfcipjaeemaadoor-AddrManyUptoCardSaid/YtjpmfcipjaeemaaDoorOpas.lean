/-
  Arguments opened: a slice of addresses.
-/
import Derived.Test.YtjpmfcipjaeemaaDoorOpad
import Derived.Test.YtjpmfcipjaeemaaDoorRad
namespace Go.Proofs.YtjpmfcipjaeemaaDoor
set_option linter.unusedSimpArgs false
set_option linter.unusedVariables false
open Go.ChangeShapes Go.WideShapes Go.ChangeAt Go.RowKit Go.Deep Go.Joins

theorem list_of_eachA {α : Type} (P : Nat → α → Prop) : ∀ n, (∀ i, i < n → ∃ x, P i x) → ∃ L : List α, L.length = n ∧ ∀ j (hj : j < L.length), P j L[j]
  | 0, _ => ⟨[], rfl, fun j hj => absurd hj (Nat.not_lt_zero _)⟩
  | n + 1, h => by
    obtain ⟨L, hl, hL⟩ := list_of_eachA P n (fun i hi => h i (by omega))
    obtain ⟨x, hx⟩ := h n (by omega)
    refine ⟨L ++ [x], by rw [List.length_append, hl]; rfl, fun j hj => ?_⟩
    rw [List.length_append, List.length_singleton] at hj
    rcases Nat.lt_or_ge j L.length with h1 | h1
    · rw [List.getElem_append_left h1]; exact hL j h1
    · have : j = L.length := by omega
      subst this
      rw [List.getElem_concat_length rfl, hl]; exact hx
theorem i64_of_wfA {n : Int} (h : (Lit.int .i64 n).wf = true) : -9223372036854775808 ≤ n ∧ n ≤ 9223372036854775807 := by
  simp [Lit.wf, IntKind.min, IntKind.max, IntKind.signed, IntKind.bits] at h; omega
def AdrBd (B : Nat) (a : Adr) : Prop :=
  (a.disp.length ≤ B ∧ a.uri.scheme.length ≤ B ∧ a.uri.user.length ≤ B ∧ a.uri.host.length ≤ B) ∧ (-9223372036854775808 ≤ a.uri.port ∧ a.uri.port ≤ 9223372036854775807) ∧
  (∀ p ∈ a.uri.ps, p.name.length ≤ B ∧ p.value.length ≤ B) ∧ (∀ p ∈ a.uri.hs, p.name.length ≤ B ∧ p.value.length ≤ B) ∧ (∀ p ∈ a.ps, p.name.length ≤ B ∧ p.value.length ≤ B)
theorem AdrBd.mono {B B' : Nat} {a : Adr} (h : AdrBd B a) (hB : B ≤ B') : AdrBd B' a := by
  obtain ⟨⟨h1, h2, h3, h4⟩, h5, h6, h7, h8⟩ := h
  exact ⟨⟨by omega, by omega, by omega, by omega⟩, h5, fun p hp => by have := h6 p hp; omega, fun p hp => by have := h7 p hp; omega, fun p hp => by have := h8 p hp; omega⟩

section
variable {H : Type} {enc : TypeId × Value → H} {P : Program} {w : World} {base : Nat} {spare : Nat → Bool} {held : Bool}
theorem open_addrs {t te : TypeId} {a0 a1 a2 : Field} {f0 f1 f2 f3 f4 f5 : Field} {v : Value} {d : DataW H} {p : List MemPlace} {r : Reach} {b0 : Nat} {e : TypeId} {g0 g1 g2 : Field} (ht : P.underlying t = some (.slice te)) (hA : P.underlying te = some (.struct #[a0, a1, a2])) (hC : P.cellsOf te = 8)
    (oa : a0.offset = 0 ∧ P.cellsOf a0.type = 1 ∧ a1.offset = 1 ∧ P.cellsOf a1.type = 6 ∧ a2.offset = 7 ∧ P.cellsOf a2.type = 1) (r0 : P.underlying a0.type = some .string) (r2 : P.underlying a2.type = some (.slice e))
    (hs : P.underlying a1.type = some (.struct #[f0, f1, f2, f3, f4, f5])) (hone : oneCellFields P #[f0, f1, f2, f3, f4, f5] = true)
    (h0 : P.underlying f0.type = some .string) (h1 : P.underlying f1.type = some .string) (h2 : P.underlying f2.type = some .string) (h3 : P.underlying f3.type = some (.int .i64)) (h4 : P.underlying f4.type = some (.slice e)) (h5 : P.underlying f5.type = some (.slice e))
    (he : P.underlying e = some (.struct #[g0, g1, g2])) (hone' : oneCellFields P #[g0, g1, g2] = true) (hC' : P.cellsOf e = 3) (k0 : P.underlying g0.type = some .string) (k1 : P.underlying g1.type = some .string) (k2 : P.underlying g2.type = some .bool)
    (hv : Value.okWide P w r b0 t v) (h : DataW.Trod enc P w base spare held t v d p) :
    ∃ L, RAdrs w v L ∧ ∀ a ∈ L, AdrBd (Rows.uptoBulk d) a := by
  obtain ⟨z0, len0, cap0, rfl⟩ := okWide_slice ht hv
  obtain ⟨fuel, hf⟩ := h
  rcases open_slice ht hf with ⟨hcs, hx⟩ | ⟨a, len, cap, m, n, D, Pl, hcs, hb, hl, hm, hmm, hx, hi⟩
  · simp [Value.cells] at hcs
    obtain ⟨rfl, rfl, rfl⟩ := hcs
    exact ⟨[], .inl ⟨⟨_, _, rfl⟩, rfl⟩, fun p hp => by simp at hp⟩
  · simp [Value.cells] at hcs
    obtain ⟨rfl, rfl, rfl⟩ := hcs
    have hlm : len0 ≤ m := by rw [hmm]; split <;> omega
    have each : ∀ i, i < m → ∃ (q : Adr), w.cell? (a.add (i * 8)) = some (sv q.disp) ∧ w.cell? (a.add (i * 8 + 1)) = some (sv q.uri.scheme) ∧ w.cell? (a.add (i * 8 + 2)) = some (sv q.uri.user) ∧ w.cell? (a.add (i * 8 + 3)) = some (sv q.uri.host) ∧ w.cell? (a.add (i * 8 + 4)) = some (.int .i64 q.uri.port) ∧
        (∃ u1 u2 u3, w.cell? (a.add (i * 8 + 5)) = some u1 ∧ w.cell? (a.add (i * 8 + 6)) = some u2 ∧ w.cell? (a.add (i * 8 + 7)) = some u3 ∧ RPrms w u1 q.uri.ps ∧ RPrms w u2 q.uri.hs ∧ RPrms w u3 q.ps) ∧ AdrBd (Rows.uptoBulk (D i)) q := by
      intro i him
      obtain ⟨cs', hc, ht'⟩ := hi i him
      rw [hC] at hc
      obtain ⟨_, hcl, hat⟩ := World.cells?_some hc
      match cs', hcl with
      | [c0, c1, c2, c3, c4, c5, c6, c7], _ =>
        have hcell : ∀ j, j < 8 → w.cell? (a.add (i * 8 + j)) = [c0, c1, c2, c3, c4, c5, c6, c7][j]? := fun j hj => by
          have := hat j hj
          rwa [add_add] at this
        obtain ⟨D0, S, U, T, n0, F, G, L, rfl, rfl, rfl, rfl, rfl, hw, g6, g7, g8, g9, g10, g11, g12⟩ := open_adr hA oa r0 r2 hs hone h0 h1 h2 h3 h4 h5 he hone' hC' k0 k1 k2 ht'
        dsimp only at g9 g10 g11 g12
        refine ⟨⟨us D0, ⟨us S, us U, us T, n0, F, G⟩, L⟩, ?_, ?_, ?_, ?_, hcell 4 (by decide), ⟨c5, c6, c7, hcell 5 (by decide), hcell 6 (by decide), hcell 7 (by decide), g6, g7, g8⟩, ⟨⟨?_, ?_, ?_, ?_⟩, i64_of_wfA hw, g10, g11, g12⟩⟩
        · unfold sv; rw [bs_us]; exact hcell 0 (by decide)
        · unfold sv; rw [bs_us]; exact hcell 1 (by decide)
        · unfold sv; rw [bs_us]; exact hcell 2 (by decide)
        · unfold sv; rw [bs_us]; exact hcell 3 (by decide)
        all_goals
          dsimp only
          rw [length_us]; omega
    have hx1 := congrArg Prod.fst hx
    dsimp only at hx1
    rw [hx1]
    rcases Nat.eq_zero_or_pos len0 with hz | hz
    · subst hz
      exact ⟨[], .inl ⟨⟨_, _, rfl⟩, rfl⟩, fun p hp => by simp at hp⟩
    · obtain ⟨L, hL, hLP⟩ := list_of_eachA _ len0 (fun i hi => each i (by omega))
      obtain ⟨c0, _⟩ := hLP 0 (by omega)
      rw [Nat.zero_mul, show a.add 0 = a from rfl] at c0
      obtain ⟨ha, hblt⟩ := addr_of_cell c0
      obtain ⟨ab, ao, asp⟩ := a
      simp only [Addr.mk.injEq, true_and] at ha
      subst ha
      refine ⟨L, .inr ⟨ab, ao, cap0, by rw [hL], by rw [hL]; exact hl, hm, hblt, fun j hj => ?_⟩, ?_⟩
      · obtain ⟨c0, c1, c2, c3, c4, ⟨u1, u2, u3, c5, c6, c7, y1, y2, y3⟩, _⟩ := hLP j hj
        rw [add_at] at c0 c1 c2 c3 c4 c5 c6 c7
        rw [← Nat.add_assoc] at c1 c2 c3 c4 c5 c6 c7
        exact ⟨c0, c1, c2, c3, c4, u1, u2, u3, c5, c6, c7, y1, y2, y3⟩
      · intro q hq
        obtain ⟨i, hi', rfl⟩ := List.getElem_of_mem hq
        obtain ⟨_, _, _, _, _, _, h5⟩ := hLP i hi'
        have h6 := bulk_mem ((List.range len0).map D) (D i) (List.mem_map.2 ⟨i, List.mem_range.2 (by omega), rfl⟩)
        exact h5.mono (by rw [Rows.uptoBulk]; omega)
end

end Go.Proofs.YtjpmfcipjaeemaaDoor
