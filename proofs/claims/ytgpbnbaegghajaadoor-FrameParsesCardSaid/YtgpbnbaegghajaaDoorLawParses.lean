/-
  The law FrameParses: the walk.
-/
import Derived.Test.YtgpbnbaegghajaaDoorFrO
import Derived.Test.YtgpbnbaegghajaaDoorSam
import Derived.Test.YtgpbnbaegghajaaDoorByt
import Derived.Test.YtgpbnbaegghajaaDoorAwake6
namespace Go.Proofs.YtgpbnbaegghajaaDoor
open Go.RowKit

set_option maxRecDepth 100000 in
set_option maxHeartbeats 6400000 in
theorem frameParses_walk (ao : Option Addr) (n cap : Nat) (B : ByteArray) (hB : B.size ≤ 9223372036854775807) (w : World) (hm : Ml w) (hb : RByt Tryd.prog 22 w (.slice ao n cap) B) :
    Calls Tryd.prog 3 #[.slice ao n cap] w fun e w' => e = .returned (.bool true) ∧ Below w.heap.size w w' := by
  have HM := Lib.hid hm
  have HB := Lib.hid hb
  have hc1 := hb w (Below.refl _ _) 9 Tryd.underlying9
  have HP := Lib.hid (fun wx hx => parse_c B (by omega) wx hx)
  have HQ := Lib.hid (fun wx => parseR_c B (by omega) wx)
  have HA := Lib.hid (fun wx hx => awake_c wx hx)
  clear hm hb
  unfold ParsePost at HP HQ
  obtain ⟨r, hr⟩ : ∃ r, r = parseS (us B) := ⟨_, rfl⟩
  rw [← hr] at HP HQ
  clear hr
  obtain ⟨m, c⟩ := r
  dsimp only at HP HQ
  have HSm := Lib.hid (fun wx u v hu hv => (show Calls Tryd.prog 11 #[mgv m u, mgv m v] wx fun e w' => e = .returned (.bool true) ∧ Below wx.heap.size wx w' from by have := sameM_c u v m m wx hu hv; rw [beq_self_eq_true] at this; exact this))
  unfold mgv sv at HP HQ HSm
  obtain ⟨MM, hMM⟩ : ∃ x, x = bs m.method := ⟨_, rfl⟩
  obtain ⟨TT, hTT⟩ : ∃ x, x = bs m.target := ⟨_, rfl⟩
  obtain ⟨RR, hRR⟩ : ∃ x, x = bs m.reason := ⟨_, rfl⟩
  obtain ⟨BB, hBB⟩ : ∃ x, x = bs m.body := ⟨_, rfl⟩
  rw [← hMM, ← hTT, ← hRR, ← hBB] at HP HQ HSm
  clear hMM hTT hRR hBB
  go_enter Tryd.func3, Tryd.ntmps3
  go_wp2_with (first
    | (go_at_call 9; refine (HP.out _ HM.out).mono ?_; rintro e w1 ⟨u1, rfl, hu1, _, hB1⟩; obtain ⟨a1, c1, rfl, _, _⟩ := hu1.form; have hB1a := hB1.alloc hB1.size (.cells #[.string MM, .string TT, .int .i64 m.status, .string RR, .slice a1 m.hdrs.length c1, .string BB] 25); have hc2 := HB.out _ hB1a 9 Tryd.underlying9; have HU1 := Lib.hid (hu1.below ((Below.refl _ _).alloc (Nat.le_refl _) (.cells #[.string MM, .string TT, .int .i64 m.status, .string RR, .slice a1 m.hdrs.length c1, .string BB] 25)) (Nat.le_refl _)); clear hu1)
    | (go_at_call 10; refine (HQ.out _).mono ?_; rintro e w2 ⟨u2, rfl, hu2, _, hB2⟩; obtain ⟨b1, _, _⟩ := newCall hB2; obtain ⟨a2, c2, rfl, _, _⟩ := hu2.form; have hB2a := hB1a.trans (hB2.mono hB1a.size); have hB3a := hB2a.alloc hB2a.size (.cells #[.string MM, .string TT, .int .i64 m.status, .string RR, .slice a2 m.hdrs.length c2, .string BB] 25); have hv1 := HU1.out.below (hB2.alloc hB2.size (.cells #[.string MM, .string TT, .int .i64 m.status, .string RR, .slice a2 m.hdrs.length c2, .string BB] 25)) (Nat.le_refl _); have hv2 := hu2.below ((Below.refl _ _).alloc (Nat.le_refl _) (.cells #[.string MM, .string TT, .int .i64 m.status, .string RR, .slice a2 m.hdrs.length c2, .string BB] 25)) (Nat.le_refl _); have HV1 := Lib.hid hv1; have HV2 := Lib.hid hv2; clear hu2 hv1 hv2; obtain ⟨p0, p1, p2, p3, p4, p5⟩ := (b1.alloc (.cells #[.string MM, .string TT, .int .i64 m.status, .string RR, .slice a2 m.hdrs.length c2, .string BB] 25)).f6; obtain ⟨q0, q1, q2, q3, q4, q5⟩ := (Blk.new w2 25 #[.string MM, .string TT, .int .i64 m.status, .string RR, .slice a2 m.hdrs.length c2, .string BB]).f6)
    | (go_at_call 11; refine (HSm.out _ _ _ HV1.out HV2.out).mono ?_; rintro e w3 ⟨rfl, hC3⟩; have hB3 := hB3a.trans (hC3.mono hB3a.size); have hM3 := HM.out.below hB3)
    | (go_at_call 12; refine (HA.out _ hM3).mono ?_; rintro e w4 ⟨rfl, hC4⟩))
  go_ret
  exact ⟨rfl, hB3.trans (hC4.mono hB3.size)⟩

end Go.Proofs.YtgpbnbaegghajaaDoor
