/- Contracts of Go functions, and plain laws. No condition but those told. -/
import Derived.Test.YtgkilllbkljibaaGreatDoorR16
import Derived.Test.YtgkilllbkljibaaGreatDoorR13
set_option linter.unusedSimpArgs false
set_option linter.unusedVariables false
set_option maxRecDepth 100000
namespace Go.Proofs.YtgkilllbkljibaaGreatDoor
section
open Go.RowKit
def evEq (n : List UInt8) (F : List Prm) (m : List UInt8) (G : List Prm) : Bool := (n == m) && (F == G)
theorem sameE_c (N : ByteArray) (u : Value) (F : List Prm) (M : ByteArray) (v : Value) (G : List Prm) (w : World) (hu : RPrms w u F) (hv : RPrms w v G) :
  Calls Tryz.prog 40 #[.agg #[.string N, u], .agg #[.string M, v]] w fun e w' => e = .returned (.bool (evEq (us N) F (us M) G)) ∧ Below w.heap.size w w' := by
 have HU := κ hu
 have HV := κ hv
 obtain ⟨ao, cap, rfl, _, _⟩ := hu.form
 obtain ⟨bo, cap', rfl, _, _⟩ := hv.form
 clear hu hv
 have HL := κ (fun wx hx hy => lists_c (.slice ao F.length cap) (.slice bo G.length cap') F G wx hx hy)
 have HE := κ (show evEq (us N) F (us M) G = ((N.toList == M.toList) && (F == G)) by unfold evEq; rw [toList_us, toList_us])
 have hR0 : Below w.heap.size w w := Below.refl _ _
 obtain ⟨q, hq⟩ : ∃ q, q = (F == G) := ⟨_, rfl⟩
 rw [← hq] at HL HE
 clear hq
 cases e1 : (N.toList == M.toList)
 all_goals
  rw [e1] at HE
  go_enter Tryz.func40, Tryz.ntmps40
  go_wp2_with (go_at_call 105; refine (HL.out _ (HU.out.below ((hR0.alloc (ρ _) _).alloc (by rw [World.size_alloc]; omega) _) (ρ _)) (HV.out.below ((hR0.alloc (ρ _) _).alloc (by rw [World.size_alloc]; omega) _) (ρ _))).mono ?_; rintro e w1 ⟨rfl, hD⟩; replace hR0 := ((hR0.alloc (ρ _) _).alloc (by rw [World.size_alloc]; omega) _).trans (hD.below (B := w.heap.size)); clear hD)
  go_ret
  exact ⟨ret_bool (by rw [HE.out]; first | rfl | simp), by first | exact hR0 | exact (hR0.alloc (ρ _) _).alloc (by rw [World.size_alloc]; omega) _⟩
end
end Go.Proofs.YtgkilllbkljibaaGreatDoor
