/-
  rosterref07.All.
-/
import Derived.Test.YtjohecbmeoalaaaDoorVls
namespace Go.Proofs.YtjohecbmeoalaaaDoor
open Go.RowKit Go.Sort

set_option maxRecDepth 100000 in
set_option maxHeartbeats 6400000 in
theorem allV_c (v1 v2 : Value) (L : List Hop) (w : World) (h1 : RHops w v1 L) (h2 : RHops w v2 L) :
    Calls Tryd.prog 15 #[v1, v2] w fun e w' => e = .returned (.bool true) ∧ Below w.heap.size w w' := by
  obtain ⟨ao, cap, rfl, hm1, c1⟩ := h1.form
  obtain ⟨bo, cap', rfl, hm2, c2⟩ := h2.form
  have C1 := Lib.hid c1
  have C2 := Lib.hid c2
  clear c1 c2 h1 h2
  unfold maxLen at hm1 hm2
  go_enter Tryd.func15, Tryd.ntmps15
  go_wp2
  go_loopw [5] (fun i wr => ∃ k : Nat, k ≤ L.length ∧ i = .int .i64 k ∧ Below w.heap.size w wr) (fun i _ => L.length - (intOf i).toNat)
  case atStart => exact ⟨0, Nat.zero_le _, rfl, Below.refl _ _⟩
  case round =>
    obtain ⟨k, hk, rfl, hB⟩ := hrel
    by_cases hlt : k < L.length
    · obtain ⟨b, off, rfl, hb1, hc1⟩ := C1.out (by omega)
      obtain ⟨b', off', rfl, hb2, hc2⟩ := C2.out (by omega)
      obtain ⟨x0, x1, u, x2, hu⟩ := hc1 k hlt
      obtain ⟨y0, y1, v, y2, hv⟩ := hc2 k hlt
      have hu := hu.below hB (Nat.le_refl _)
      have hv := hv.below hB (Nat.le_refl _)
      rw [← hB.cell (p := ⟨b, off + k * 3, none⟩) hb1] at x0
      rw [← hB.cell (p := ⟨b, off + k * 3 + 1, none⟩) hb1] at x1
      rw [← hB.cell (p := ⟨b, off + k * 3 + 2, none⟩) hb1] at x2
      rw [← hB.cell (p := ⟨b', off' + k * 3, none⟩) hb2] at y0
      rw [← hB.cell (p := ⟨b', off' + k * 3 + 1, none⟩) hb2] at y1
      rw [← hB.cell (p := ⟨b', off' + k * 3 + 2, none⟩) hb2] at y2
      have HU := Lib.hid hu
      have HV := Lib.hid hv
      obtain ⟨au, cu, rfl, _, _⟩ := hu.form
      obtain ⟨av, cv, rfl, _, _⟩ := hv.form
      unfold sv at x0 y0
      obtain ⟨F, hF⟩ : ∃ F, F = L[k].ps := ⟨_, rfl⟩
      rw [← hF] at HU HV x2 y2
      obtain ⟨N, hN⟩ : ∃ N, N = bs L[k].host := ⟨_, rfl⟩
      rw [← hN] at x0 y0
      obtain ⟨p, hp⟩ : ∃ p, p = L[k].port := ⟨_, rfl⟩
      rw [← hp] at x1 y1
      have cS := fun d os => Calls.regrown_of (same_yes N p F (.slice au F.length cu) (.slice av F.length cv) (grow (redrawn wr d) os) (HU.out.below (below_regrown wr d os) (Nat.le_refl _)) (HV.out.below (below_regrown wr d os) (Nat.le_refl _)))
      have k0 : (0 : Int) ≤ (k : Int) := by omega
      have k1 : (k : Int) < (L.length : Int) := by omega
      have q0 := cell_regrown x0
      have q1 := cell_regrown x1
      have q2 := cell_regrown x2
      have r0 := cell_regrown y0
      have r1 := cell_regrown y1
      have r2 := cell_regrown y2
      clear hc1 hc2 hu hv hF hN hp
      go_wp2
      refine wp_region_quiet_below (by kernel_rfl) (by kernel_rfl) ?_
      repeat (first | go_big_quiet_step (with_reducible exact cS _ _) | quiet_step (with_reducible exact cS _ _))
      refine wpQuiet_nil ?_
      intro wq hw'
      have hBq := regrownV hw'
      clear hw' cS q0 q1 q2 r0 r1 r2
      go_wp2
      go_roundw
      case rel => exact ⟨k + 1, by omega, by go_num, hB.trans (hBq.mono hB.size)⟩
      case measure => simp [intOf]; omega
    · go_wp2
      go_ret
      exact ⟨rfl, hB⟩

end Go.Proofs.YtjohecbmeoalaaaDoor
