/-
  The law ViaParses: the walk.
-/
import Derived.Test.YtjohecbmeoalaaaDoorAwake7
namespace Go.Proofs.YtjohecbmeoalaaaDoor
open Go.RowKit Go.Sort

set_option maxHeartbeats 6400000 in
theorem viaParses_walk (s : ByteArray) (hs : s.size ≤ 140737488351232) (w : World) (hm : Ml w) :
    Calls Tryd.prog 3 #[.string s] w fun e w' => e = .returned (.bool true) ∧ Below w.heap.size w w' := by
  have HM := Lib.hid hm
  have HA := Lib.hid (fun wx hx => awake_c wx hx)
  by_cases h5 : 5000 < s.size
  · have t5 : (5000 : Int) < (s.size : Int) := by omega
    have hMM := HM.out
    clear h5 hm
    go_enter Tryd.func3, Tryd.ntmps3
    go_wp2_with (first | (go_at_call 9; refine (HA.out _ hMM).mono ?_; rintro e wz ⟨rfl, hCz⟩))
    go_ret
    exact ⟨rfl, hCz⟩
  · have t5 : ¬ ((5000 : Int) < (s.size : Int)) := by omega
    have HP := Lib.hid (fun wx hx => parseV_c s (by omega) wx hx)
    have HQ := Lib.hid (fun wx => parseVR_c s (by omega) wx)
    unfold HopPost at HP HQ
    obtain ⟨r, hr⟩ : ∃ r, r = parseV (us s) := ⟨_, rfl⟩
    rw [← hr] at HP HQ
    clear hr h5 hm
    obtain ⟨⟨h, p, F⟩, c⟩ := r
    dsimp only at HP HQ
    unfold sv at HP HQ
    obtain ⟨H, hH⟩ : ∃ H, H = bs h := ⟨_, rfl⟩
    rw [← hH] at HP HQ
    clear hH
    have HS := Lib.hid (fun wx u v h1 h2 => same_yes H p F u v wx h1 h2)
    go_enter Tryd.func3, Tryd.ntmps3
    go_wp2_with (first | (go_at_call 10; refine (HP.out _ HM.out).mono ?_; rintro e w1 ⟨u1, rfl, hu1, _, hB1⟩; obtain ⟨a1, c1, rfl, _, _⟩ := hu1.form; have hZ := hB1.alloc hB1.size (.cells #[.string H, .int .i64 p, .slice a1 F.length c1] 25); have hMM := HM.out.below hZ; have hU := hu1.below ((Below.refl _ _).alloc (Nat.le_refl _) (.cells #[.string H, .int .i64 p, .slice a1 F.length c1] 25)) (Nat.le_refl _); clear hu1; have bm := Blk.new w1 25 #[.string H, .int .i64 p, .slice a1 F.length c1]; obtain ⟨p0, p1, p2, _, _, _, _⟩ := bm.f3) | (go_at_call 11; refine (HQ.out _).mono ?_; rintro e w2 ⟨u2, rfl, hu2, _, hB2⟩; obtain ⟨a2, c2, rfl, _, _⟩ := hu2.form; have hC := hB2.alloc hB2.size (.cells #[.string H, .int .i64 p, .slice a2 F.length c2] 25); have bm := bm.call hC; have hZ := hZ.trans (hC.mono hZ.size); have hMM := HM.out.below hZ; have hU := hU.below hC (Nat.le_refl _); have hV := hu2.below ((Below.refl _ _).alloc (Nat.le_refl _) (.cells #[.string H, .int .i64 p, .slice a2 F.length c2] 25)) (Nat.le_refl _); clear hu2; have bn := Blk.new w2 25 #[.string H, .int .i64 p, .slice a2 F.length c2]; obtain ⟨p0, p1, p2, _, _, _, _⟩ := bm.f3; obtain ⟨n0, n1, n2, _, _, _, _⟩ := bn.f3) | (go_at_call 12; refine (HS.out _ _ _ hU hV).mono ?_; rintro e w3 ⟨rfl, hC3⟩; have hZ := hZ.trans (hC3.mono hZ.size); have hMM := HM.out.below hZ) | (go_at_call 9; refine (HA.out _ hMM).mono ?_; rintro e wz ⟨rfl, hCz⟩))
    go_ret
    exact ⟨rfl, hZ.trans (hCz.mono hZ.size)⟩

end Go.Proofs.YtjohecbmeoalaaaDoor
