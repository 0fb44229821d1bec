/-
  rosterref05.All, where both slices read as the same.
-/
import Derived.Test.YtjpmfcipjaeemaaDoorRad
import Derived.Lib.QuietBelow
import Derived.BigQuiet
namespace Go.Proofs.YtjpmfcipjaeemaaDoor
set_option linter.unusedSimpArgs false
set_option linter.unusedVariables false
open Go.RowKit Go.Sort

theorem regrownA {W wq : World} (h : ∃ p : Regrown, wq = grow (redrawn W p.d) p.os) : Below W.heap.size W wq := by
  obtain ⟨p, rfl⟩ := h
  exact below_regrown _ _ _

set_option maxRecDepth 100000 in
set_option maxHeartbeats 12800000 in
theorem allA_c (v1 v2 : Value) (L : List Adr) (w : World) (h1 : RAdrs w v1 L) (h2 : RAdrs w v2 L) :
    Calls Tryd.prog 18 #[v1, v2] w fun e w' => e = .returned (.bool true) ∧ Below w.heap.size w w' := by
  obtain ⟨ao, cap, rfl, hm1, c1⟩ := h1.form
  obtain ⟨bo, cap', rfl, hm2, c2⟩ := h2.form
  have C1 := Lib.hid c1
  have C2 := Lib.hid c2
  clear c1 c2 h1 h2
  unfold maxLen at hm1 hm2
  go_enter Tryd.func18, Tryd.ntmps18
  go_wp2
  go_loopw [5] (fun i wr => ∃ k : Nat, k ≤ L.length ∧ i = .int .i64 k ∧ Below w.heap.size w wr) (fun i _ => L.length - (intOf i).toNat)
  case atStart => exact ⟨0, Nat.zero_le _, rfl, Below.refl _ _⟩
  case round =>
    obtain ⟨k, hk, rfl, hB⟩ := hrel
    by_cases hlt : k < L.length
    · obtain ⟨b, off, rfl, hb1, hc1⟩ := C1.out (by omega)
      obtain ⟨b', off', rfl, hb2, hc2⟩ := C2.out (by omega)
      obtain ⟨x0, x1, x2, x3, x4, u1, u2, u3, x5, x6, x7, g1, g2, g3⟩ := hc1 k hlt
      obtain ⟨y0, y1, y2, y3, y4, v1, v2, v3, y5, y6, y7, j1, j2, j3⟩ := hc2 k hlt
      replace g1 := g1.below hB (Nat.le_refl _)
      replace g2 := g2.below hB (Nat.le_refl _)
      replace g3 := g3.below hB (Nat.le_refl _)
      replace j1 := j1.below hB (Nat.le_refl _)
      replace j2 := j2.below hB (Nat.le_refl _)
      replace j3 := j3.below hB (Nat.le_refl _)
      rw [← hB.cell (p := ⟨b, off + k * 8, none⟩) hb1] at x0
      rw [← hB.cell (p := ⟨b, off + k * 8 + 1, none⟩) hb1] at x1
      rw [← hB.cell (p := ⟨b, off + k * 8 + 2, none⟩) hb1] at x2
      rw [← hB.cell (p := ⟨b, off + k * 8 + 3, none⟩) hb1] at x3
      rw [← hB.cell (p := ⟨b, off + k * 8 + 4, none⟩) hb1] at x4
      rw [← hB.cell (p := ⟨b, off + k * 8 + 5, none⟩) hb1] at x5
      rw [← hB.cell (p := ⟨b, off + k * 8 + 6, none⟩) hb1] at x6
      rw [← hB.cell (p := ⟨b, off + k * 8 + 7, none⟩) hb1] at x7
      rw [← hB.cell (p := ⟨b', off' + k * 8, none⟩) hb2] at y0
      rw [← hB.cell (p := ⟨b', off' + k * 8 + 1, none⟩) hb2] at y1
      rw [← hB.cell (p := ⟨b', off' + k * 8 + 2, none⟩) hb2] at y2
      rw [← hB.cell (p := ⟨b', off' + k * 8 + 3, none⟩) hb2] at y3
      rw [← hB.cell (p := ⟨b', off' + k * 8 + 4, none⟩) hb2] at y4
      rw [← hB.cell (p := ⟨b', off' + k * 8 + 5, none⟩) hb2] at y5
      rw [← hB.cell (p := ⟨b', off' + k * 8 + 6, none⟩) hb2] at y6
      rw [← hB.cell (p := ⟨b', off' + k * 8 + 7, none⟩) hb2] at y7
      have Hg1 := Lib.hid g1
      have Hg2 := Lib.hid g2
      have Hg3 := Lib.hid g3
      have Hj1 := Lib.hid j1
      have Hj2 := Lib.hid j2
      have Hj3 := Lib.hid j3
      obtain ⟨a0, d0, rfl, _, _⟩ := g1.form
      obtain ⟨a1, d1, rfl, _, _⟩ := g2.form
      obtain ⟨a2, d2, rfl, _, _⟩ := g3.form
      obtain ⟨a3, d3, rfl, _, _⟩ := j1.form
      obtain ⟨a4, d4, rfl, _, _⟩ := j2.form
      obtain ⟨a5, d5, rfl, _, _⟩ := j3.form
      unfold sv at x0 x1 x2 x3 y0 y1 y2 y3
      obtain ⟨D, hD⟩ : ∃ N, N = bs L[k].disp := ⟨_, rfl⟩
      rw [← hD] at x0 y0
      obtain ⟨S, hS⟩ : ∃ N, N = bs L[k].uri.scheme := ⟨_, rfl⟩
      rw [← hS] at x1 y1
      obtain ⟨U, hU⟩ : ∃ N, N = bs L[k].uri.user := ⟨_, rfl⟩
      rw [← hU] at x2 y2
      obtain ⟨H, hH⟩ : ∃ N, N = bs L[k].uri.host := ⟨_, rfl⟩
      rw [← hH] at x3 y3
      obtain ⟨n, hn⟩ : ∃ p, p = L[k].uri.port := ⟨_, rfl⟩
      rw [← hn] at x4 y4
      obtain ⟨F, hF⟩ : ∃ F, F = L[k].uri.ps := ⟨_, rfl⟩
      rw [← hF] at Hg1 Hj1 x5 y5
      obtain ⟨G, hG⟩ : ∃ F, F = L[k].uri.hs := ⟨_, rfl⟩
      rw [← hG] at Hg2 Hj2 x6 y6
      obtain ⟨P, hP⟩ : ∃ F, F = L[k].ps := ⟨_, rfl⟩
      rw [← hP] at Hg3 Hj3 x7 y7
      have cS := fun d os => Calls.regrown_of (same5_yes D S U H n (.slice a0 F.length d0) (.slice a1 G.length d1) (.slice a2 P.length d2) (.slice a3 F.length d3) (.slice a4 G.length d4) (.slice a5 P.length d5) F G P (grow (redrawn wr d) os) (Hg1.out.below (below_regrown wr d os) (Nat.le_refl _)) (Hg2.out.below (below_regrown wr d os) (Nat.le_refl _)) (Hg3.out.below (below_regrown wr d os) (Nat.le_refl _)) (Hj1.out.below (below_regrown wr d os) (Nat.le_refl _)) (Hj2.out.below (below_regrown wr d os) (Nat.le_refl _)) (Hj3.out.below (below_regrown wr d os) (Nat.le_refl _)))
      have k0 : (0 : Int) ≤ (k : Int) := by omega
      have k1 : (k : Int) < (L.length : Int) := by omega
      replace x0 := cell_regrown x0
      replace y0 := cell_regrown y0
      replace x1 := cell_regrown x1
      replace y1 := cell_regrown y1
      replace x2 := cell_regrown x2
      replace y2 := cell_regrown y2
      replace x3 := cell_regrown x3
      replace y3 := cell_regrown y3
      replace x4 := cell_regrown x4
      replace y4 := cell_regrown y4
      replace x5 := cell_regrown x5
      replace y5 := cell_regrown y5
      replace x6 := cell_regrown x6
      replace y6 := cell_regrown y6
      replace x7 := cell_regrown x7
      replace y7 := cell_regrown y7
      clear hc1 hc2 g1 g2 g3 j1 j2 j3 hD hS hU hH hn hF hG hP
      go_wp2
      refine wp_region_quiet_below (by kernel_rfl) (by kernel_rfl) ?_
      repeat (first | go_big_quiet_step (with_reducible exact cS _ _) | quiet_step (with_reducible exact cS _ _))
      refine wpQuiet_nil ?_
      intro wq hw'
      have hBq := regrownA hw'
      clear hw' cS x0 x1 x2 x3 x4 x5 x6 x7 y0 y1 y2 y3 y4 y5 y6 y7
      go_wp2
      go_roundw
      case rel => exact ⟨k + 1, by omega, by go_num, hB.trans (hBq.mono hB.size)⟩
      case measure => simp [intOf]; omega
    · go_wp2
      go_ret
      exact ⟨rfl, hB⟩

end Go.Proofs.YtjpmfcipjaeemaaDoor
