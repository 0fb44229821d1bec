/-
  rosterlaw06.awake.
-/
import Derived.Test.YtgpbnbaegghajaaDoorFrM
import Derived.Test.YtgpbnbaegghajaaDoorFrN
namespace Go.Proofs.YtgpbnbaegghajaaDoor
open Go.RowKit

def kA : ByteArray := ⟨#[79, 80, 84, 73, 79, 78, 83, 32, 115, 105, 112, 58, 97, 32, 83, 73, 80, 47, 50, 46, 48, 13, 10, 108, 32, 58, 32, 49, 13, 10, 13, 10, 120, 121, 122]⟩
def kB : ByteArray := ⟨#[83, 73, 80, 47, 50, 46, 48, 32, 50, 48, 48, 32, 79, 75, 13, 10, 105, 58, 32, 49, 13, 10, 32, 50, 13, 10, 13, 10]⟩
theorem kA_is : parseS (us kA) = (⟨[79, 80, 84, 73, 79, 78, 83], [115, 105, 112, 58, 97], 0, [], [], [120]⟩, 0) := by decide +kernel
theorem kB_is : parseS (us kB) = (⟨[], [], 200, [79, 75], [⟨nCallId, [49, 32, 50]⟩], []⟩, 0) := by decide +kernel
theorem kO_is : oneS [⟨nCallId, [49, 32, 50]⟩] (us ⟨#[99, 97, 108, 108, 45, 105, 100]⟩) = ([49, 32, 50], true) := by decide +kernel

set_option maxRecDepth 100000 in
set_option maxHeartbeats 3200000 in
theorem awake_c (w : World) (hm : Ml w) : Calls Tryd.prog 12 #[] w fun e w' => e = .returned (.bool true) ∧ Below w.heap.size w w' := by
  have HM := Lib.hid hm
  clear hm
  have HA := Lib.hid (fun wx hx => parse_c kA (by decide) wx hx)
  have HB := Lib.hid (fun wx hx => parse_c kB (by decide) wx hx)
  unfold ParsePost at HA HB
  rw [kA_is] at HA
  rw [kB_is] at HB
  unfold kA at HA
  unfold kB at HB
  unfold mgv sv at HA HB
  dsimp only at HA HB
  have HO := Lib.hid (fun wx u hu => one_c' (bs []) (bs []) (bs [79, 75]) (bs []) 200 u [⟨nCallId, [49, 32, 50]⟩] ⟨#[99, 97, 108, 108, 45, 105, 100]⟩ (by decide) wx hu (by intro h hh; simp only [List.mem_cons, List.not_mem_nil, or_false] at hh; rw [hh]; decide) (by decide))
  rw [kO_is] at HO
  dsimp only at HO
  obtain ⟨O, hO⟩ : ∃ O, O = bs [79, 80, 84, 73, 79, 78, 83] := ⟨_, rfl⟩
  obtain ⟨SA, hSA⟩ : ∃ O, O = bs [115, 105, 112, 58, 97] := ⟨_, rfl⟩
  obtain ⟨XB, hXB⟩ : ∃ O, O = bs [120] := ⟨_, rfl⟩
  obtain ⟨E0, hE0⟩ : ∃ O, O = bs [] := ⟨_, rfl⟩
  obtain ⟨OK, hOK⟩ : ∃ O, O = bs [79, 75] := ⟨_, rfl⟩
  obtain ⟨V2, hV2⟩ : ∃ O, O = bs [49, 32, 50] := ⟨_, rfl⟩
  rw [← hO, ← hSA, ← hXB, ← hE0] at HA
  rw [← hE0, ← hOK] at HB
  rw [← hE0, ← hOK, ← hV2] at HO
  have e1 : (XB.toList == [120]) = true := by rw [hXB, toList_bs]; rfl
  have e2 : (O.toList == [79, 80, 84, 73, 79, 78, 83]) = true := by rw [hO, toList_bs]; rfl
  have e3 : (V2.toList == [49, 32, 50]) = true := by rw [hV2, toList_bs]; rfl
  clear hO hSA hXB hE0 hOK hV2
  go_enter Tryd.func12, Tryd.ntmps12
  go_wp2_with (first
    | (go_at_call 9; refine (HB.out _ hM1).mono ?_; rintro e w2 ⟨u2, rfl, hu2, _, hC2⟩; obtain ⟨b1, hC2', _⟩ := newCall hC2; have hB2 := hB1.trans (hC2'.mono hB1.size); have HU2 := Lib.hid (hu2.below ((Below.refl _ _).alloc (Nat.le_refl _) (.cells #[.string E0, .string E0, .int .i64 200, .string OK, u2, .string E0] 25)) (Nat.le_refl _)); obtain ⟨a2, c2, rfl, _, _⟩ := hu2.form; clear hu2)
    | (go_at_call 9; refine (HA.out _ HM.out).mono ?_; rintro e w1 ⟨u1, rfl, hu1, _, hB1⟩; have hB1a := hB1.alloc hB1.size (.cells #[.string O, .string SA, .int .i64 0, .string E0, u1, .string XB] 25); have hM1 := HM.out.below hB1a; obtain ⟨a1, c1, rfl, _, _⟩ := hu1.form; clear hu1)
    | (go_at_call 14; refine (HO.out _ _ HU2.out).mono ?_; rintro e w3 ⟨rfl, hC3⟩; obtain ⟨b3, hC3', _⟩ := newCall hC3; have b1' := b1.call hC3'; obtain ⟨p0, p1, p2, p3, p4, p5⟩ := b1'.f6; obtain ⟨q0, q1, q2, q3, q4, q5⟩ := b3.f6; have hB3 := hB2.trans (hC3'.mono hB2.size)))
  go_ret
  exact ⟨rfl, hB3⟩

end Go.Proofs.YtgpbnbaegghajaaDoor
