/-
  The law ViaBack: the walk.
-/
import Derived.Test.YtjohecbmeoalaaaDoorAwake7
namespace Go.Proofs.YtjohecbmeoalaaaDoor
open Go.RowKit Go.Sort

set_option maxRecDepth 100000 in
set_option maxHeartbeats 12800000 in
theorem viaBack_walk (N : ByteArray) (x : Int) (x0 : -9223372036854775808 ≤ x) (x1 : x ≤ 9223372036854775807) (u : Value) (F : List Prm) (hN : N.size ≤ 1048576) (w : World) (hm : Ml w) (hu : RPrms w u F) (hbd : ∀ p ∈ F, p.name.length ≤ 1048576 ∧ p.value.length ≤ 1048576) :
    Calls Tryd.prog 6 #[.agg #[.string N, .int .i64 x, u]] w fun e w' => e = .returned (.bool true) ∧ Below w.heap.size w w' := by
  have HM := Lib.hid hm
  have HU := Lib.hid hu
  obtain ⟨ao, cap, rfl, _, _⟩ := hu.form
  have HA := Lib.hid (fun wx hx => awake_c wx hx)
  have hBw : Below w.heap.size w (w.alloc (.cells #[.string N, .int .i64 x, .slice ao F.length cap] 25)) := (Below.refl _ _).alloc (Nat.le_refl _) _
  have bm0 : Blk (w.alloc (.cells #[.string N, .int .i64 x, .slice ao F.length cap] 25)) w.heap.size 25 #[.string N, .int .i64 x, .slice ao F.length cap] := Blk.new _ _ _
  obtain ⟨w0, hw0⟩ : ∃ w0, w0 = (w.alloc (.cells #[.string N, .int .i64 x, .slice ao F.length cap] 25)) := ⟨_, rfl⟩
  have HX := Lib.hid (fun (wx : World) (h : Below w0.heap.size w0 wx) => (show Blk wx w.heap.size 25 #[.string N, .int .i64 x, .slice ao F.length cap] ∧ Below w.heap.size w wx ∧ Ml wx ∧ RPrms wx (.slice ao F.length cap) F from by
    subst hw0
    have hx := hBw.trans (h.mono hBw.size)
    exact ⟨bm0.call h, hx, HM.out.below hx, HU.out.below hx (Nat.le_refl _)⟩))
  have hZ : Below w0.heap.size w0 w0 := Below.refl _ _
  have HW0 := Lib.hid hw0
  clear hw0 bm0 hBw hm hu
  obtain ⟨bm, hBB, hMM, hUU⟩ := HX.out _ hZ
  obtain ⟨p0, p1, p2, _, _, _, _⟩ := bm.f3
  by_cases h100 : 100 < F.length
  · have t100 : (100 : Int) < (F.length : Int) := by omega
    clear h100 hbd
    go_enter Tryd.func6, Tryd.ntmps6
    go_wp2_with (first | (go_at_call 9; (try rw [← HW0.out]); refine (HA.out _ hMM).mono ?_; rintro e wz ⟨rfl, hCz⟩))
    go_ret
    exact ⟨rfl, hBB.trans (hCz.mono hBB.size)⟩
  have t100 : ¬ ((100 : Int) < (F.length : Int)) := by omega
  clear h100
  have HP := Lib.hid (fun wx hx hv => printV_c N x (.slice ao F.length cap) F (by omega) x0 x1 wx hx hv (fun p hp => by have := hbd p hp; omega))
  obtain ⟨v, hv⟩ : ∃ v : Hop, v = ⟨us N, x, F⟩ := ⟨_, rfl⟩
  rw [← hv] at HP
  by_cases hc : checkV v = 0
  · have hpr : printV v = (textV v, 0) := by unfold printV; rw [if_pos hc]
    have htl := textV_len v hc
    have hpb := parse_back v hc
    rw [hpr] at HP
    dsimp only at HP
    obtain ⟨TX, hTX⟩ : ∃ TX, TX = bs (textV v) := ⟨_, rfl⟩
    have uT : textV v = us TX := by rw [hTX, us_bs]
    rw [← hTX] at HP
    have HQ := Lib.hid (fun wx hx => parseV_c TX (by rw [hTX, size_bs]; omega) wx hx)
    unfold HopPost at HQ
    rw [← uT, hpb, hv] at HQ
    dsimp only at HQ
    unfold sv at HQ
    rw [bs_us] at HQ
    have HS := Lib.hid (fun wx u v h1 h2 => same_yes N x F u v wx h1 h2)
    clear hpr htl hpb hTX uT hv hc hbd
    go_enter Tryd.func6, Tryd.ntmps6
    go_wp2_with (first | (go_at_call 16; (try rw [← HW0.out]); refine (HP.out _ hMM hUU).mono ?_; rintro e w1 ⟨rfl, hCw1⟩; have hZ := hZ.trans (hCw1.mono hZ.size); obtain ⟨bm, hBB, hMM, hUU⟩ := HX.out _ hZ; obtain ⟨p0, p1, p2, _, _, _, _⟩ := bm.f3) | (go_at_call 10; refine (HQ.out _ hMM).mono ?_; rintro e w2 ⟨u2, rfl, hu2, _, hB2⟩; obtain ⟨a2, c2, rfl, _, _⟩ := hu2.form; have hC := hB2.alloc hB2.size (.cells #[.string N, .int .i64 x, .slice a2 F.length c2] 25); have hZ := hZ.trans (hC.mono hZ.size); obtain ⟨bm, hBB, hMM, hUU⟩ := HX.out _ hZ; obtain ⟨p0, p1, p2, _, _, _, _⟩ := bm.f3; have hV := hu2.below ((Below.refl _ _).alloc (Nat.le_refl _) (.cells #[.string N, .int .i64 x, .slice a2 F.length c2] 25)) (Nat.le_refl _); clear hu2; have bn := Blk.new w2 25 #[.string N, .int .i64 x, .slice a2 F.length c2]; obtain ⟨n0, n1, n2, _, _, _, _⟩ := bn.f3) | (go_at_call 12; (try rw [← HW0.out]); refine (HS.out _ _ _ hUU hV).mono ?_; rintro e w3 ⟨rfl, hCw3⟩; have hZ := hZ.trans (hCw3.mono hZ.size); obtain ⟨bm, hBB, hMM, hUU⟩ := HX.out _ hZ; obtain ⟨p0, p1, p2, _, _, _, _⟩ := bm.f3) | (go_at_call 9; (try rw [← HW0.out]); refine (HA.out _ hMM).mono ?_; rintro e wz ⟨rfl, hCz⟩))
    go_ret
    exact ⟨rfl, hBB.trans (hCz.mono hBB.size)⟩
  · have hpr : printV v = ([], checkV v) := by unfold printV; rw [if_neg hc]
    rw [hpr] at HP
    dsimp only at HP
    unfold bs at HP
    obtain ⟨C, hC⟩ : ∃ C, C = checkV v := ⟨_, rfl⟩
    rw [← hC] at HP hc
    have t0 : (C != 0) = true := by simpa using hc
    clear hpr hC hv hc hbd
    go_enter Tryd.func6, Tryd.ntmps6
    go_wp2_with (first | (go_at_call 16; (try rw [← HW0.out]); refine (HP.out _ hMM hUU).mono ?_; rintro e w1 ⟨rfl, hCw1⟩; have hZ := hZ.trans (hCw1.mono hZ.size); obtain ⟨bm, hBB, hMM, hUU⟩ := HX.out _ hZ; obtain ⟨p0, p1, p2, _, _, _, _⟩ := bm.f3) | (go_at_call 9; (try rw [← HW0.out]); refine (HA.out _ hMM).mono ?_; rintro e wz ⟨rfl, hCz⟩))
    go_ret
    exact ⟨rfl, hBB.trans (hCz.mono hBB.size)⟩

end Go.Proofs.YtjohecbmeoalaaaDoor
