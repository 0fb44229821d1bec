/-
  rosterref04.Value.
-/
import Derived.Test.YteiafgoigfehgaaDoorPrmB
namespace Go.Proofs.YteiafgoigfehgaaDoor
open Go.RowKit

/-- a parameter's value, and whether there is such a parameter -/
def valueGo (name : List UInt8) : List Prm → List UInt8 × Bool
  | [] => ([], false)
  | p :: r => if same p.name name then (p.value, true) else valueGo name r
def value (L : List Prm) (name : List UInt8) : List UInt8 × Bool := valueGo name L
theorem place_value (name : List UInt8) : ∀ (L : List Prm) (k : Nat),
    (placeGo name L k = -1 ∧ valueGo name L = ([], false)) ∨ (∃ j, ∃ h : j < L.length, placeGo name L k = ((k + j : Nat) : Int) ∧ valueGo name L = (L[j].value, true))
  | [], k => .inl ⟨rfl, rfl⟩
  | p :: r, k => by
    by_cases h : same p.name name = true
    · exact .inr ⟨0, by simp, by rw [placeGo, if_pos h]; simp, by rw [valueGo, if_pos h]; rfl⟩
    · rcases place_value name r (k + 1) with ⟨h1, h2⟩ | ⟨j, hj, h1, h2⟩
      · exact .inl ⟨by rw [placeGo, if_neg h, h1], by rw [valueGo, if_neg h, h2]⟩
      · refine .inr ⟨j + 1, by simp; omega, ?_, ?_⟩
        · rw [placeGo, if_neg h, h1]; congr 1; omega
        · rw [valueGo, if_neg h, h2]; simp

theorem valueR_c (v : Value) (L : List Prm) (s : ByteArray) (hs : s.size ≤ 140737488355328) (w : World) (h1 : RPrms w v L) (hb : ∀ p ∈ L, p.name.length ≤ 140737488355328) :
    Calls Tryd.prog 49 #[v, .string s] w fun e w' => e = .returned (.tuple #[.string (bs (value L (us s)).1), .bool (value L (us s)).2]) ∧ Below w.heap.size w w' := by
  have HP := Lib.hid (place_c v L s hs w h1 hb)
  obtain ⟨ao, cap, rfl, hm1, c1⟩ := h1.form
  have C1 := Lib.hid c1
  clear c1 h1 hb
  unfold maxLen at hm1
  rcases place_value (us s) L 0 with ⟨e1, e2⟩ | ⟨j, hj, e1, e2⟩
  · have HV := Lib.hid (show value L (us s) = ([], false) from e2)
    rw [show place L (us s) = -1 from e1] at HP
    clear e1 e2
    go_enter Tryd.func49, Tryd.ntmps49
    go_wp2_with (go_at_call 65; refine (HP.out).mono ?_; rintro e w1 ⟨rfl, hC⟩)
    go_ret2
    exact ⟨by rw [HV.out]; rfl, hC⟩
  · have HV := Lib.hid (show value L (us s) = (L[j].value, true) from e2)
    rw [show place L (us s) = ((j : Nat) : Int) from by rw [show place L (us s) = _ from e1]; simp] at HP
    clear e1 e2
    obtain ⟨b, off, rfl, hb1, hc1⟩ := C1.out (by omega)
    have k0 : (0 : Int) ≤ (j : Int) := by omega
    have k1 : (j : Int) < (L.length : Int) := by omega
    have X := Lib.hid (fun (w1 : World) (hC : Below w.heap.size w w1) => show w1.cell? ⟨b, off + j * 3 + 1, none⟩ = some (.string (bs L[j].value)) by
      rw [hC.cell (p := ⟨b, off + j * 3 + 1, none⟩) hb1]; exact (hc1 j hj).2.1)
    clear hc1
    go_enter Tryd.func49, Tryd.ntmps49
    go_wp2_with (go_at_call 65; refine (HP.out).mono ?_; rintro e w1 ⟨rfl, hC⟩; have x1 := X.out w1 hC; have HC := Lib.hid hC; clear hC)
    go_ret2
    exact ⟨by rw [HV.out]; rfl, HC.out⟩

end Go.Proofs.YteiafgoigfehgaaDoor
