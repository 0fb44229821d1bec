/-
  addr.Tag; rosterref03.Same and rosterref05.Same where all that is read is equal.
-/
import Derived.Test.YtjpmfcipjaeemaaGreatDoorAck
namespace Go.Proofs.YtjpmfcipjaeemaaGreatDoor
set_option linter.unusedSimpArgs false
set_option linter.unusedVariables false
open Go.RowKit

set_option maxHeartbeats 3200000 in
theorem tagA_c (D S U H : ByteArray) (n : Int) (u1 u2 u3 : Value) (F G P : List Prm) (w : World) (h3 : RPrms w u3 P) (hb : ∀ p ∈ P, p.name.length ≤ 4294967280) (f1 : ∃ ao c, u1 = .slice ao F.length c) (f2 : ∃ ao c, u2 = .slice ao G.length c) :
    Calls Tryz.prog 9 #[.agg #[.string D, .string S, .string U, .string H, .int .i64 n, u1, u2, u3]] w fun e w' => e = .returned (.string (bs (value P nTag).1)) ∧ Below w.heap.size w w' := by
  have HU := Lib.hid h3
  obtain ⟨ao, ac, rfl⟩ := f1
  obtain ⟨bo, bc, rfl⟩ := f2
  obtain ⟨co, cc, rfl, _, _⟩ := h3.form
  clear h3
  have HV := Lib.hid (fun wx hv => value_c (.slice co P.length cc) P ⟨#[116, 97, 103]⟩ (by decide) wx hv (fun p hp => by have := hb p hp; omega))
  rw [show us ⟨#[116, 97, 103]⟩ = nTag from rfl] at HV
  obtain ⟨q, hq⟩ : ∃ q, q = value P nTag := ⟨_, rfl⟩
  rw [← hq] at HV ⊢
  clear hq hb
  have hZ := (Below.refl w.heap.size w).alloc (Nat.le_refl _) (.cells #[.string D, .string S, .string U, .string H, .int .i64 n, .slice ao F.length ac, .slice bo G.length bc, .slice co P.length cc] 26)
  go_enter Tryz.func9, Tryz.ntmps9
  go_wp2_with (go_at_call 20; refine (HV.out _ (HU.out.below hZ (Nat.le_refl _))).mono ?_; rintro e w1 ⟨rfl, hC1⟩; have hZ := hZ.trans (hC1.mono hZ.size))
  go_ret
  exact ⟨rfl, hZ⟩

end Go.Proofs.YtjpmfcipjaeemaaGreatDoor
