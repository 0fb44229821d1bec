/-
  The walk of rosterlaw05.AddrFields.
-/
import Derived.Test.YtjpmfcipjaeemaaDoorAwk
import Derived.Test.YtjpmfcipjaeemaaDoorTxt
namespace Go.Proofs.YtjpmfcipjaeemaaDoor
set_option linter.unusedSimpArgs false
set_option linter.unusedVariables false
open Go.RowKit

set_option maxRecDepth 100000 in
set_option maxHeartbeats 6400000 in
theorem addrFields_walk (v0 : Value) (Ps : List (List UInt8)) (v1 : Value) (L : List Prm) (w : World) (hm : Ml w) (hL0 : RStrs w v0 Ps) (b0 : ∀ x ∈ Ps, x.length ≤ 1048576) (hu1 : RPrms w v1 L) (bF1 : ∀ p ∈ L, p.name.length ≤ 1048576 ∧ p.value.length ≤ 1048576) :
    Calls Tryd.prog 3 #[v0, v1] w fun e w' => e = .returned (.bool true) ∧ Below w.heap.size w w' := by
  have HM := Lib.hid hm
  have HV0 := Lib.hid hL0
  have HV1 := Lib.hid hu1
  obtain ⟨a0, c0, rfl, hx0, _⟩ := hL0.form
  obtain ⟨a1, c1, rfl, hx1, _⟩ := hu1.form
  have HF := Lib.hid (fun wx hx hv => fields_c (.slice a0 Ps.length c0) Ps wx hx hv (fun x h => by have := b0 x h; omega))
  have HG := Lib.hid (fun wx hv => fieldsR_c (.slice a0 Ps.length c0) Ps wx hv (fun x h => by have := b0 x h; omega))
  have HT := Lib.hid (fun wx hx hv => text_c (.slice a1 L.length c1) L wx hx hv (fun p hp => by have := bF1 p hp; omega))
  have HU := Lib.hid (fun wx hv => textR_c (.slice a1 L.length c1) L wx hv (fun p hp => by have := bF1 p hp; omega))
  have HA := Lib.hid (fun wx hx => awake_c wx hx)
  obtain ⟨q, hq⟩ : ∃ q, q = fieldsS Ps := ⟨_, rfl⟩
  obtain ⟨t, ht⟩ : ∃ q, q = textS L := ⟨_, rfl⟩
  rw [← hq] at HF HG
  rw [← ht] at HT HU
  clear hq ht hm hL0 hu1 b0 bF1
  obtain ⟨qs, qe⟩ := q
  obtain ⟨ts, te⟩ := t
  dsimp only at HF HG HT HU
  have HL := Lib.hid (fun wx u1 u2 hx hy => lists_c u1 u2 qs qs wx hx hy)
  rw [show (qs == qs) = true by simp] at HL
  unfold maxLen at hx0 hx1
  have hZ : Below w.heap.size w w := Below.refl _ _
  by_cases hl : 100 < L.length
  · go_enter Tryd.func3, Tryd.ntmps3
    go_wp2_with (go_at_call 7; refine (HA.out _ HM.out).mono ?_; rintro e w1 ⟨rfl, hC⟩; replace hZ := hZ.trans (hC.mono hZ.size))
    go_ret
    exact ⟨rfl, hZ⟩
  · go_enter Tryd.func3, Tryd.ntmps3
    go_wp2_with (first | (go_at_call 8; refine (HF.out _ HM.out HV0.out).mono ?_; rintro e w1 ⟨u1, rfl, k1, _, hC⟩; replace hZ := hZ.trans (hC.mono hZ.size); clear hC; obtain ⟨d1, e1, rfl, _, _⟩ := k1.form; replace k1 := Lib.hid k1) | (go_at_call 9; refine (HG.out _ (HV0.out.below hZ (Nat.le_refl _))).mono ?_; rintro e w2 ⟨u2, rfl, k2, _, hC⟩; replace hZ := hZ.trans (hC.mono hZ.size); replace k1 := Lib.hid (k1.out.below hC (Nat.le_refl _)); clear hC; obtain ⟨d2, e2, rfl, _, _⟩ := k2.form; replace k2 := Lib.hid k2) | (go_at_call 10; refine (HT.out _ (HM.out.below hZ) (HV1.out.below hZ (Nat.le_refl _))).mono ?_; rintro e w3 ⟨rfl, hC⟩; replace hZ := hZ.trans (hC.mono hZ.size); replace k1 := Lib.hid (k1.out.below hC (Nat.le_refl _)); replace k2 := Lib.hid (k2.out.below hC (Nat.le_refl _)); clear hC) | (go_at_call 11; refine (HU.out _ (HV1.out.below hZ (Nat.le_refl _))).mono ?_; rintro e w4 ⟨rfl, hC⟩; replace hZ := hZ.trans (hC.mono hZ.size); replace k1 := Lib.hid (k1.out.below hC (Nat.le_refl _)); replace k2 := Lib.hid (k2.out.below hC (Nat.le_refl _)); clear hC) | (go_at_call 12; refine (HL.out _ _ _ k1.out k2.out).mono ?_; rintro e w5 ⟨rfl, hC⟩; replace hZ := hZ.trans (hC.below (B := w.heap.size)); clear hC k1 k2) | (go_at_call 7; refine (HA.out _ (HM.out.below hZ)).mono ?_; rintro e w6 ⟨rfl, hC⟩; replace hZ := hZ.trans (hC.mono hZ.size); clear hC))
    go_ret
    exact ⟨rfl, hZ⟩

end Go.Proofs.YtjpmfcipjaeemaaDoor
