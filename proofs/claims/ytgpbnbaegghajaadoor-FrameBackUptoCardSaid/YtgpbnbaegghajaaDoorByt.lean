/-
  Arguments opened: a slice of bytes, and that string(b) tells them in every world behind.
-/
import Derived.Test.YtgpbnbaegghajaaDoorOpen
import Derived.Laws.BytesArg
import Derived.Deep.Slices
import Derived.ChangeSlices
namespace Go.Proofs.YtgpbnbaegghajaaDoor
open Go.ChangeShapes Go.WideShapes Go.ChangeAt Go.RowKit Go.Deep Go.Joins

theorem bytes_lits {H : Type} : ∀ (zs : List Int), Rows.uptoBulkAll (lits (H := H) .u8 zs) = zs.length
  | [] => rfl
  | z :: r => by
    have := bytes_lits (H := H) r
    unfold lits at this ⊢
    have h1 : Rows.uptoBulk (DataW.lit (.int .u8 z) : DataW H) = 1 := by simp [Rows.uptoBulk]
    rw [List.map_cons, Rows.uptoBulkAll, this, h1, List.length_cons]
    omega
/-- a slice of bytes that string(b) tells as B, here and in every world behind -/
def RByt (P : Program) (t : TypeId) (w : World) (v : Value) (B : ByteArray) : Prop :=
  ∀ wx : World, Below w.heap.size w wx → ∀ dst, P.underlying dst = some .string → (convert t dst v).run P wx = .ok (.string B) wx
theorem RByt.below {P : Program} {t : TypeId} {w w' : World} {v : Value} {B : ByteArray} (h : RByt P t w v B) (hB : Below w.heap.size w w') : RByt P t w' v B :=
  fun wx hx => h wx (hB.trans (hx.mono hB.size))

section
variable {H : Type} {enc : TypeId × Value → H} {P : Program} {w : World} {base : Nat} {spare : Nat → Bool} {held : Bool}
theorem open_u8s {t e : TypeId} {v : Value} {d : DataW H} {p : List MemPlace} {r : Reach} {b0 : Nat} (ht : P.underlying t = some (.slice e)) (he : P.underlying e = some (.int .u8)) (hc : P.cellsOf e = 1)
    (hv : Value.okWide P w r b0 t v) (h : DataW.Trod enc P w base spare held t v d p) :
    ∃ (ao : Option Addr) (n cap : Nat) (B : ByteArray), v = .slice ao n cap ∧ n = B.size ∧ n ≤ cap ∧ cap ≤ maxLen ∧ RByt P t w v B ∧ B.size ≤ Rows.uptoBulk d := by
  obtain ⟨a0, len, cap, rfl⟩ := okWide_slice ht hv
  obtain ⟨fuel, hf⟩ := h
  rcases open_ints ht he hc hf with ⟨hcs, hx⟩ | ⟨a, len', cap', zs, hcs, _, hl, hm, hz, hx, hcell, hws⟩
  · simp [Value.cells] at hcs
    obtain ⟨rfl, rfl, rfl⟩ := hcs
    exact ⟨none, 0, 0, ByteArray.empty, rfl, rfl, Nat.le_refl _, Nat.zero_le _, fun wx _ => run_convert_bytes_nil wx t e ht he 0 0, Nat.zero_le _⟩
  · simp [Value.cells] at hcs
    obtain ⟨rfl, rfl, rfl⟩ := hcs
    simp only [Prod.mk.injEq] at hx
    obtain ⟨rfl, rfl⟩ := hx
    have hlen : len ≤ zs.length := by rw [hz]; split <;> omega
    have hsz : (strOfNums (zs.take len)).size = len := by rw [strOfNums_size, List.length_take]; omega
    refine ⟨some a, len, cap, strOfNums (zs.take len), rfl, hsz.symm, hl, hm, ?_, ?_⟩
    · intro wx hx dst hd
      rcases Nat.eq_zero_or_pos len with h0 | h0
      · subst h0
        rw [run_convert_bytes_string wx t dst e _ 0 cap ht he hd]
        simp [Conv.bytesToString, loadCells, strOfNums]
        rfl
      · have hc0 := hcell 0 (by omega)
        rw [show a.add 0 = a by cases a; simp [Addr.add]] at hc0
        obtain ⟨ha, hb⟩ := addr_of_cell hc0
        obtain ⟨ab, ao, asp⟩ := a
        simp only [Addr.mk.injEq, true_and] at ha
        subst ha
        refine run_convert_bytes_arg wx t e ht he ab ao len cap (zs.take len) (by rw [List.length_take]; omega) (fun i hi => ?_) dst hd
        rw [hx.cell (p := ⟨ab, ao + i, none⟩) hb]
        have := hcell i (by omega)
        rw [add_at] at this
        rw [this]
        simp [List.getD_eq_getElem?_getD, List.getElem?_take_of_lt hi]
    · rw [hsz, Rows.uptoBulk]
      have := bytes_lits (H := H) (zs.take len)
      rw [List.length_take] at this
      omega
end

end Go.Proofs.YtgpbnbaegghajaaDoor
