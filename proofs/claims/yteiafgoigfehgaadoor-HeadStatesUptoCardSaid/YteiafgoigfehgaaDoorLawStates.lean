/-
  The law HeadStates: the walk.
-/
import Derived.Test.YteiafgoigfehgaaDoorAwake8
import Derived.Test.YteiafgoigfehgaaDoorSta
import Derived.Test.YteiafgoigfehgaaDoorSho
namespace Go.Proofs.YteiafgoigfehgaaDoor
open Go.RowKit

set_option maxRecDepth 100000 in
set_option maxHeartbeats 3200000 in
theorem headStates_walk (s : ByteArray) (hs : s.size ≤ 1048576) (N : ByteArray) (hN : N.size ≤ 1048576) (x : Int) (x0 : -9223372036854775808 ≤ x) (x1 : x ≤ 9223372036854775807) (R : ByteArray) (hR : R.size ≤ 1048576) (w : World) (hm : Ml w) :
    Calls Tryd.prog 6 #[.string s, .agg #[.string N, .int .i64 x, .string R]] w fun e w' => e = .returned (.bool true) ∧ Below w.heap.size w w' := by
  have HM := Lib.hid hm
  clear hm
  have HW := Lib.hid (fun wx hx => awake_c wx hx)
  have hR0 : Below w.heap.size w w := Below.refl _ _
  by_cases hl : 5000 < s.size
  · go_enter Tryd.func6, Tryd.ntmps6
    go_wp2_with (go_at_call 15; refine (HW.out _ (HM.out.below (hR0.alloc (Nat.le_refl _) _))).mono ?_; rintro e w5 ⟨rfl, hC5⟩; obtain ⟨_, hB5, _⟩ := newCall hC5)
    go_ret
    exact ⟨rfl, hB5⟩
  have HS := Lib.hid (fun wx hx => state_c s (by omega) wx hx)
  have HSR := Lib.hid (fun wx => stateR_c s (by omega) wx)
  unfold StPost stV at HS HSR
  obtain ⟨p, hp⟩ : ∃ p, p = stS (us s) := ⟨_, rfl⟩
  rw [← hp] at HS HSR
  clear hp
  obtain ⟨⟨pn, px, pr⟩, pe⟩ := p
  dsimp only at HS HSR
  obtain ⟨PN, hPN⟩ : ∃ PN, PN = bs pn := ⟨_, rfl⟩
  obtain ⟨PR, hPR⟩ : ∃ PR, PR = bs pr := ⟨_, rfl⟩
  rw [← hPN, ← hPR] at HS HSR
  clear hPN hPR
  have HT := Lib.hid (fun wx => show_c N x R (by omega) (by omega) x0 x1 wx)
  have HTR := Lib.hid (fun wx => showR_c N x R (by omega) (by omega) x0 x1 wx)
  obtain ⟨q, hq⟩ : ∃ q, q = showS (us N) x (us R) := ⟨_, rfl⟩
  rw [← hq] at HT HTR
  clear hq
  obtain ⟨qs, qe⟩ := q
  dsimp only at HT HTR
  obtain ⟨QS, hQS⟩ : ∃ QS, QS = bs qs := ⟨_, rfl⟩
  rw [← hQS] at HT HTR
  clear hQS
  go_enter Tryd.func6, Tryd.ntmps6
  go_wp2_with (first | (go_at_call 18; refine (HS.out _ (HM.out.below (hR0.alloc (Nat.le_refl _) _))).mono ?_; rintro e w1 ⟨rfl, hC⟩; obtain ⟨B0, hB1, hz1⟩ := newCall hC; have HB0 := Lib.hid B0; clear B0 hC) | (go_at_call 19; refine (HSR.out _).mono ?_; rintro e w2 ⟨rfl, hC2⟩; obtain ⟨B5, hB2', hz2⟩ := newCall hC2; have C0 := HB0.out.call hB2'; obtain ⟨a0, a1, a2, _, _, _, hz02⟩ := C0.f3; have HC0 := Lib.hid C0; have HB5 := Lib.hid B5; have hB2 := hB1.trans (hB2'.mono (Nat.le_of_lt hz1)); clear C0 B5 hC2 hB2') | (go_at_call 20; refine (HT.out _).mono ?_; rintro e w3 ⟨rfl, hC3⟩; obtain ⟨B7, hB3', hz3⟩ := newCall hC3; have D0 := HC0.out.call hB3'; have D5 := HB5.out.call hB3'; obtain ⟨b0, b1, b2, _, _, _, hz03⟩ := D0.f3; have HD5 := Lib.hid D5; have HB7 := Lib.hid B7; have hB3 := hB2.trans (hB3'.mono hB2.size); clear D0 D5 B7 hC3 hB3') | (go_at_call 21; refine (HTR.out _).mono ?_; rintro e w4 ⟨rfl, hC4⟩; have E5 := HD5.out.call hC4; have E7 := HB7.out.call hC4; obtain ⟨c0, c1, c2, _, _, _, _⟩ := E5.f3; obtain ⟨d0, d1, d2, _, _, _, _⟩ := E7.f3; have hB4 := hB3.trans (hC4.mono hB3.size); clear E5 E7 hC4) | (go_at_call 15; refine (HW.out _ (HM.out.below hB4)).mono ?_; rintro e w5 ⟨rfl, hC5⟩; have hB5 := hB4.trans (hC5.mono hB4.size)))
  go_ret
  exact ⟨rfl, hB5⟩

end Go.Proofs.YteiafgoigfehgaaDoor
