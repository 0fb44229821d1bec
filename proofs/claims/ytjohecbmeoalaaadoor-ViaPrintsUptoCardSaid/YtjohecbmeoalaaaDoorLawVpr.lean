/-
  The law ViaPrints: the walk.
-/
import Derived.Test.YtjohecbmeoalaaaDoorAwake7
namespace Go.Proofs.YtjohecbmeoalaaaDoor
open Go.RowKit Go.Sort

set_option maxRecDepth 100000 in
set_option maxHeartbeats 12800000 in
theorem viaPrints_walk (N : ByteArray) (x : Int) (x0 : -9223372036854775808 ≤ x) (x1 : x ≤ 9223372036854775807) (u : Value) (F : List Prm) (hN : N.size ≤ 1048576) (w : World) (hm : Ml w) (hu : RPrms w u F) (hbd : ∀ p ∈ F, p.name.length ≤ 1048576 ∧ p.value.length ≤ 1048576) :
    Calls Tryd.prog 5 #[.agg #[.string N, .int .i64 x, u]] w fun e w' => e = .returned (.bool true) ∧ Below w.heap.size w w' := by
  have HM := Lib.hid hm
  have HU := Lib.hid hu
  obtain ⟨ao, cap, rfl, _, _⟩ := hu.form
  have HA := Lib.hid (fun wx hx => awake_c wx hx)
  have hBw : Below w.heap.size w (w.alloc (.cells #[.string N, .int .i64 x, .slice ao F.length cap] 25)) := (Below.refl _ _).alloc (Nat.le_refl _) _
  have bm0 : Blk (w.alloc (.cells #[.string N, .int .i64 x, .slice ao F.length cap] 25)) w.heap.size 25 #[.string N, .int .i64 x, .slice ao F.length cap] := Blk.new _ _ _
  obtain ⟨w0, hw0⟩ : ∃ w0, w0 = (w.alloc (.cells #[.string N, .int .i64 x, .slice ao F.length cap] 25)) := ⟨_, rfl⟩
  have HX := Lib.hid (fun (wx : World) (h : Below w0.heap.size w0 wx) => (show Blk wx w.heap.size 25 #[.string N, .int .i64 x, .slice ao F.length cap] ∧ Below w.heap.size w wx ∧ Ml wx ∧ RPrms wx (.slice ao F.length cap) F from by
    subst hw0
    have hx := hBw.trans (h.mono hBw.size)
    exact ⟨bm0.call h, hx, HM.out.below hx, HU.out.below hx (Nat.le_refl _)⟩))
  have hZ : Below w0.heap.size w0 w0 := Below.refl _ _
  have HW0 := Lib.hid hw0
  clear hw0 bm0 hBw hm hu
  obtain ⟨bm, hBB, hMM, hUU⟩ := HX.out _ hZ
  obtain ⟨p0, p1, p2, _, _, _, _⟩ := bm.f3
  by_cases h100 : 100 < F.length
  · have t100 : (100 : Int) < (F.length : Int) := by omega
    clear h100 hbd
    go_enter Tryd.func5, Tryd.ntmps5
    go_wp2_with (first | (go_at_call 9; (try rw [← HW0.out]); refine (HA.out _ hMM).mono ?_; rintro e wz ⟨rfl, hCz⟩))
    go_ret
    exact ⟨rfl, hBB.trans (hCz.mono hBB.size)⟩
  have t100 : ¬ ((100 : Int) < (F.length : Int)) := by omega
  clear h100
  have hvl : (value F nBranch).1.length ≤ 1048576 := value_le 1048576 nBranch F (fun p hp => (hbd p hp).2)
  have HP := Lib.hid (fun wx hx hv => printV_c N x (.slice ao F.length cap) F (by omega) x0 x1 wx hx hv (fun p hp => by have := hbd p hp; omega))
  have HQ := Lib.hid (fun wx hv => printVR_c N x (.slice ao F.length cap) F (by omega) x0 x1 wx hv (fun p hp => by have := hbd p hp; omega))
  have HB := Lib.hid (fun wx hv => branchV_c N x (.slice ao F.length cap) F wx hv (fun p hp => by have := hbd p hp; omega) (by omega))
  have HD := Lib.hid (fun wx hv => branchVR_c N x (.slice ao F.length cap) F wx hv (fun p hp => by have := hbd p hp; omega) (by omega))
  have HC := Lib.hid (fun wx hx hv => checkV_c N x (.slice ao F.length cap) F (by omega) wx hx hv (fun p hp => by have := hbd p hp; omega))
  have HE := Lib.hid (fun wx hv => checkVR_c N x (.slice ao F.length cap) F (by omega) wx hv (fun p hp => by have := hbd p hp; omega))
  have HY := Lib.hid (fun wx hv => byV_c N x (.slice ao F.length cap) F (by omega) x0 x1 wx hv)
  have HZ := Lib.hid (fun wx hv => byVR_c N x (.slice ao F.length cap) F (by omega) x0 x1 wx hv)
  obtain ⟨S1, hS1⟩ : ∃ y, y = bs (printV ⟨us N, x, F⟩).1 := ⟨_, rfl⟩
  obtain ⟨C1, hC1⟩ : ∃ y, y = (printV ⟨us N, x, F⟩).2 := ⟨_, rfl⟩
  obtain ⟨B1, hB1⟩ : ∃ y, y = bs (branchV ⟨us N, x, F⟩).1 := ⟨_, rfl⟩
  obtain ⟨K1, hK1⟩ : ∃ y, y = (branchV ⟨us N, x, F⟩).2 := ⟨_, rfl⟩
  obtain ⟨C2, hC2⟩ : ∃ y, y = checkV ⟨us N, x, F⟩ := ⟨_, rfl⟩
  obtain ⟨Y1, hY1⟩ : ∃ y, y = bs (byV ⟨us N, x, F⟩) := ⟨_, rfl⟩
  rw [← hS1, ← hC1] at HP HQ
  rw [← hB1, ← hK1] at HB HD
  rw [← hC2] at HC HE
  rw [← hY1] at HY HZ
  clear hS1 hC1 hB1 hK1 hC2 hY1 hvl hbd x0 x1 hN
  go_enter Tryd.func5, Tryd.ntmps5
  go_wp2_with (first | (go_at_call 16; (try rw [← HW0.out]); refine (HP.out _ hMM hUU).mono ?_; rintro e w1 ⟨rfl, hCw1⟩; have hZ := hZ.trans (hCw1.mono hZ.size); obtain ⟨bm, hBB, hMM, hUU⟩ := HX.out _ hZ; obtain ⟨p0, p1, p2, _, _, _, _⟩ := bm.f3) | (go_at_call 17; (try rw [← HW0.out]); refine (HQ.out _ hUU).mono ?_; rintro e w2 ⟨rfl, hCw2⟩; have hZ := hZ.trans (hCw2.mono hZ.size); obtain ⟨bm, hBB, hMM, hUU⟩ := HX.out _ hZ; obtain ⟨p0, p1, p2, _, _, _, _⟩ := bm.f3) | (go_at_call 18; (try rw [← HW0.out]); refine (HB.out _ hUU).mono ?_; rintro e w3 ⟨rfl, hCw3⟩; have hZ := hZ.trans (hCw3.mono hZ.size); obtain ⟨bm, hBB, hMM, hUU⟩ := HX.out _ hZ; obtain ⟨p0, p1, p2, _, _, _, _⟩ := bm.f3) | (go_at_call 19; (try rw [← HW0.out]); refine (HD.out _ hUU).mono ?_; rintro e w4 ⟨rfl, hCw4⟩; have hZ := hZ.trans (hCw4.mono hZ.size); obtain ⟨bm, hBB, hMM, hUU⟩ := HX.out _ hZ; obtain ⟨p0, p1, p2, _, _, _, _⟩ := bm.f3))
  have cC := fun d os => Calls.regrown_of (HC.out (grow (redrawn w4 d) os) (hMM.below (below_regrown w4 d os)) (hUU.below (below_regrown w4 d os) (Nat.le_refl _)))
  have cE := fun d os => Calls.regrown_of (HE.out (grow (redrawn w4 d) os) (hUU.below (below_regrown w4 d os) (Nat.le_refl _)))
  have cY := fun d os => Calls.regrown_of (HY.out (grow (redrawn w4 d) os) (hUU.below (below_regrown w4 d os) (Nat.le_refl _)))
  have cZ := fun d os => Calls.regrown_of (HZ.out (grow (redrawn w4 d) os) (hUU.below (below_regrown w4 d os) (Nat.le_refl _)))
  have cA := fun d os => Calls.regrown_of (HA.out (grow (redrawn w4 d) os) (hMM.below (below_regrown w4 d os)))
  have q0 := cell_regrown p0
  have q1 := cell_regrown p1
  have q2 := cell_regrown p2
  refine wp_region_quiet_below (by kernel_rfl) (by kernel_rfl) ?_
  repeat (first | go_big_quiet_step (first | with_reducible exact cC _ _ | with_reducible exact cE _ _ | with_reducible exact cY _ _ | with_reducible exact cZ _ _ | with_reducible exact cA _ _) | quiet_step (first | with_reducible exact cC _ _ | with_reducible exact cE _ _ | with_reducible exact cY _ _ | with_reducible exact cZ _ _ | with_reducible exact cA _ _))
  refine wpQuiet_nil ?_
  intro wq hw'
  have hBq := regrownV hw'
  clear hw' cC cE cY cZ cA q0 q1 q2
  go_wp2
  go_ret
  exact ⟨rfl, hBB.trans (hBq.mono hBB.size)⟩

end Go.Proofs.YtjohecbmeoalaaaDoor
