/-
  Arguments opened: a slice of strings, and what its bulk says of it.
-/
import Derived.Test.YtbljmjbialinkaaDoorRows
import Derived.Test.YtbljmjbialinkaaDoorBase
import Derived.SliceStrings
import Derived.SizedLaws
import Derived.OpenShut
import Derived.ProofKit
import Derived.Lib.SmallJoins
namespace Go.Proofs.YtbljmjbialinkaaDoor
open Go.ChangeShapes Go.WideShapes Go.ChangeAt Go.RowKit

theorem addr_of_cell {w : World} {a : Addr} {v : Value} (h : w.cell? a = some v) : a = ⟨a.block, a.off, none⟩ ∧ a.block < w.heap.size := by
  obtain ⟨b, o, sp⟩ := a
  cases sp with
  | none =>
    refine ⟨rfl, ?_⟩
    rcases Nat.lt_or_ge b w.heap.size with hlt | hge
    · exact hlt
    · simp [World.cell?, Array.getElem?_eq_none hge] at h
  | some x =>
    exfalso
    simp only [World.cell?] at h
    split at h <;> simp at h
theorem add_at (b o i : Nat) : (⟨b, o, none⟩ : Addr).add i = ⟨b, o + i, none⟩ := by unfold Addr.add; split <;> simp_all
theorem bulk_mem {H : Type} : ∀ (l : List (DataW H)) (d : DataW H), d ∈ l → Rows.uptoBulk d ≤ Rows.uptoBulkAll l
  | x :: r, d, h => by
    rw [Rows.uptoBulkAll]
    rcases List.mem_cons.1 h with rfl | h
    · exact Nat.le_add_right _ _
    · have := bulk_mem r d h; omega
theorem bulk_len {H : Type} : ∀ (l : List (DataW H)), (∀ d ∈ l, 1 ≤ Rows.uptoBulk d) → l.length ≤ Rows.uptoBulkAll l
  | [], _ => Nat.zero_le _
  | x :: r, h => by
    rw [Rows.uptoBulkAll, List.length_cons]
    have := h x (List.mem_cons_self ..)
    have := bulk_len r (fun d hd => h d (List.mem_cons_of_mem _ hd))
    omega
section
variable {H : Type} {enc : TypeId × Value → H} {P : Program} {w : World} {base : Nat} {spare : Nat → Bool} {held : Bool}
theorem open_strs {t e : TypeId} {v : Value} {d : DataW H} {p : List MemPlace} {r : Reach} {b0 : Nat} (ht : P.underlying t = some (.slice e)) (he : P.underlying e = some .string) (hc : P.cellsOf e = 1)
    (hv : Value.okWide P w r b0 t v) (h : DataW.Trod enc P w base spare held t v d p) :
    ∃ L, RStrs w v L ∧ (∀ x ∈ L, x.length + 1 ≤ Rows.uptoBulk d) ∧ L.length ≤ Rows.uptoBulk d := by
  obtain ⟨a0, len, cap, rfl⟩ := okWide_slice ht hv
  obtain ⟨fuel, hf⟩ := h
  rcases open_strings ht he hc hf with ⟨hcs, hx⟩ | ⟨a, len', cap', ss, hcs, _, hl, hm, hz, hx, hcell, hws⟩
  · simp [Value.cells] at hcs
    obtain ⟨rfl, rfl, rfl⟩ := hcs
    exact ⟨[], .inl ⟨⟨_, _, rfl⟩, rfl, rfl⟩, ⟨(fun x hx => by simp at hx), Nat.zero_le _⟩⟩
  · simp [Value.cells] at hcs
    obtain ⟨rfl, rfl, rfl⟩ := hcs
    simp only [Prod.mk.injEq] at hx
    obtain ⟨rfl, rfl⟩ := hx
    have hlen : len ≤ ss.length := by rw [hz]; split <;> omega
    have hLl : ((ss.take len).map us).length = len := by rw [List.length_map, List.length_take]; omega
    have hbulk : ∀ x ∈ (ss.take len).map us, x.length + 1 ≤ Rows.uptoBulk (DataW.slice (strs (H := H) (ss.take len)) (strs (ss.drop len))) := by
      intro x hx
      obtain ⟨s, hs, rfl⟩ := List.mem_map.1 hx
      have hd : (DataW.lit (.string s.data.toList) : DataW H) ∈ strs (ss.take len) := List.mem_map.2 ⟨s, hs, rfl⟩
      have := bulk_mem _ _ hd
      rw [Rows.uptoBulk] at this
      rw [Rows.uptoBulk]
      show s.data.toList.length + 1 ≤ _
      omega
    refine ⟨(ss.take len).map us, ?_, hbulk, ?_⟩
    · rcases Nat.eq_zero_or_pos len with h0 | h0
      · subst h0
        exact .inl ⟨⟨_, _, rfl⟩, by simp, by simp⟩
      · have hc0 := hcell 0 (by omega)
        rw [show a.add 0 = a from rfl] at hc0
        obtain ⟨ha, hb⟩ := addr_of_cell hc0
        obtain ⟨ab, ao, asp⟩ := a
        simp only [Addr.mk.injEq, true_and] at ha
        subst ha
        refine .inr ⟨ab, ao, cap, by rw [hLl], by rw [hLl]; exact hl, hm, hb, fun j u hj => ?_⟩
        have hj' : j < len := by have := (List.getElem?_eq_some_iff.1 hj).1; rw [List.length_map, hLl] at this; exact this
        have := hcell j (by omega)
        rw [add_at] at this
        rw [this, ← hj, List.getElem?_map, List.getElem?_map, List.getElem?_take_of_lt hj', List.getElem?_eq_getElem (by omega)]
        simp [sv, List.getD_eq_getElem?_getD, List.getElem?_eq_getElem (show j < ss.length by omega)]
    · rw [hLl]
      have hb := bulk_len (strs (H := H) (ss.take len)) (fun d hd => by
        obtain ⟨s, _, rfl⟩ := List.mem_map.1 hd
        rw [Rows.uptoBulk]; omega)
      have hl2 : (strs (H := H) (ss.take len)).length = len := by unfold strs; rw [List.length_map, List.length_take]; omega
      rw [hl2] at hb
      rw [Rows.uptoBulk]; omega
open Go.Joins Go.Deep in
/-- a struct of a string, an int and a string, by value -/
theorem open_sis {t : TypeId} {f0 f1 f2 : Field} {v : Value} {d : DataW H} {p : List MemPlace} {r : Reach} {b0 : Nat} (hs : P.underlying t = some (.struct #[f0, f1, f2])) (hone : oneCellFields P #[f0, f1, f2] = true) (hC : P.cellsOf t = 3)
    (h0 : P.underlying f0.type = some .string) (h1 : P.underlying f1.type = some (.int .i64)) (h2 : P.underlying f2.type = some .string)
    (hv : Value.okWide P w r b0 t v) (h : DataW.Trod enc P w base spare held t v d p) :
    ∃ (N : ByteArray) (x : Int) (R : ByteArray), v = .agg #[.string N, .int .i64 x, .string R] ∧ d = .agg [.lit (.string N.data.toList), .lit (.int .i64 x), .lit (.string R.data.toList)] ∧ (Lit.int .i64 x).wf = true := by
  obtain ⟨v0, v1, v2, y0, y1, y2, n, rfl, rfl, _, g0, g1, g2⟩ := open_agg3 hs hone hC hv h
  obtain ⟨N, e0, rfl, _⟩ := DataW.trod_string h0 g0
  obtain ⟨x, e1, rfl, hw⟩ := DataW.trod_int h1 g1
  obtain ⟨R, e2, rfl, _⟩ := DataW.trod_string h2 g2
  simp only [List.cons.injEq, and_true] at e0 e1 e2
  subst e0 e1 e2
  exact ⟨N, x, R, rfl, rfl, hw⟩
end

end Go.Proofs.YtbljmjbialinkaaDoor
