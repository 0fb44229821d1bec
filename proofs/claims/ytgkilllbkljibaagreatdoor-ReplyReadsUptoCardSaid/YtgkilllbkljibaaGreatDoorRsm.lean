/- Contracts of Go functions, and plain laws. No condition but those told. -/
import Derived.Test.YtgkilllbkljibaaGreatDoorRpl
import Derived.Test.YtgkilllbkljibaaGreatDoorRQ01
import Derived.Test.YtgkilllbkljibaaGreatDoorR12
import Derived.Test.YtgkilllbkljibaaGreatDoorR13
import Derived.Test.YtgkilllbkljibaaGreatDoorR14
import Derived.Test.YtgkilllbkljibaaGreatDoorR15
import Derived.Test.YtgkilllbkljibaaGreatDoorR16
import Derived.Lib.QuietBelow
import Derived.BigQuiet
set_option linter.unusedSimpArgs false
set_option linter.unusedVariables false
set_option maxRecDepth 100000
namespace Go.Proofs.YtgkilllbkljibaaGreatDoor
open Go.RowKit Go.Sort
theorem regrownA {W wq : World} (h : ∃ p : Regrown, wq = grow (redrawn W p.d) p.os) : Below W.heap.size W wq := by
 obtain ⟨p, rfl⟩ := h
 exact below_regrown _ _ _
set_option maxRecDepth 100000 in
set_option maxHeartbeats 12800000 in
theorem allA_c (v1 v2 : Value) (L : List Adr) (w : World) (h1 : RAdrs w v1 L) (h2 : RAdrs w v2 L) :
  Calls Tryz.prog 41 #[v1, v2] w fun e w' => e = .returned (.bool true) ∧ Below w.heap.size w w' := by
 obtain ⟨ao, cap, rfl, hm1, c1⟩ := h1.form
 obtain ⟨bo, cap', rfl, hm2, c2⟩ := h2.form
 have C1 := κ c1
 have C2 := κ c2
 clear c1 c2 h1 h2
 unfold maxLen at hm1 hm2
 go_enter Tryz.func41, Tryz.ntmps41
 go_wp2
 go_loopw [5] (fun i wr => ∃ k : Nat, k ≤ L.length ∧ i = .int .i64 k ∧ Below w.heap.size w wr) (fun i _ => L.length - (intOf i).toNat)
 case atStart => exact ⟨0, Nat.zero_le _, rfl, Below.refl _ _⟩
 case round =>
  obtain ⟨k, hk, rfl, hB⟩ := hrel
  by_cases hlt : k < L.length
  ·obtain ⟨b, off, rfl, hb1, hc1⟩ := C1.out (by omega)
   obtain ⟨b', off', rfl, hb2, hc2⟩ := C2.out (by omega)
   obtain ⟨x0, x1, x2, x3, x4, u1, u2, u3, x5, x6, x7, g1, g2, g3⟩ := hc1 k hlt
   obtain ⟨y0, y1, y2, y3, y4, v1, v2, v3, y5, y6, y7, j1, j2, j3⟩ := hc2 k hlt
   replace g1 := g1.below hB (ρ _)
   replace g2 := g2.below hB (ρ _)
   replace g3 := g3.below hB (ρ _)
   replace j1 := j1.below hB (ρ _)
   replace j2 := j2.below hB (ρ _)
   replace j3 := j3.below hB (ρ _)
   rw [← hB.cell (p := ⟨b, off + k * 8, none⟩) hb1] at x0
   rw [← hB.cell (p := ⟨b, off + k * 8 + 1, none⟩) hb1] at x1
   rw [← hB.cell (p := ⟨b, off + k * 8 + 2, none⟩) hb1] at x2
   rw [← hB.cell (p := ⟨b, off + k * 8 + 3, none⟩) hb1] at x3
   rw [← hB.cell (p := ⟨b, off + k * 8 + 4, none⟩) hb1] at x4
   rw [← hB.cell (p := ⟨b, off + k * 8 + 5, none⟩) hb1] at x5
   rw [← hB.cell (p := ⟨b, off + k * 8 + 6, none⟩) hb1] at x6
   rw [← hB.cell (p := ⟨b, off + k * 8 + 7, none⟩) hb1] at x7
   rw [← hB.cell (p := ⟨b', off' + k * 8, none⟩) hb2] at y0
   rw [← hB.cell (p := ⟨b', off' + k * 8 + 1, none⟩) hb2] at y1
   rw [← hB.cell (p := ⟨b', off' + k * 8 + 2, none⟩) hb2] at y2
   rw [← hB.cell (p := ⟨b', off' + k * 8 + 3, none⟩) hb2] at y3
   rw [← hB.cell (p := ⟨b', off' + k * 8 + 4, none⟩) hb2] at y4
   rw [← hB.cell (p := ⟨b', off' + k * 8 + 5, none⟩) hb2] at y5
   rw [← hB.cell (p := ⟨b', off' + k * 8 + 6, none⟩) hb2] at y6
   rw [← hB.cell (p := ⟨b', off' + k * 8 + 7, none⟩) hb2] at y7
   have Hg1 := κ g1
   have Hg2 := κ g2
   have Hg3 := κ g3
   have Hj1 := κ j1
   have Hj2 := κ j2
   have Hj3 := κ j3
   obtain ⟨a0, d0, rfl, _, _⟩ := g1.form
   obtain ⟨a1, d1, rfl, _, _⟩ := g2.form
   obtain ⟨a2, d2, rfl, _, _⟩ := g3.form
   obtain ⟨a3, d3, rfl, _, _⟩ := j1.form
   obtain ⟨a4, d4, rfl, _, _⟩ := j2.form
   obtain ⟨a5, d5, rfl, _, _⟩ := j3.form
   unfold sv at x0 x1 x2 x3 y0 y1 y2 y3
   obtain ⟨D, hD⟩ : ∃ N, N = bs L[k].disp := ⟨_, rfl⟩
   rw [← hD] at x0 y0
   obtain ⟨S, hS⟩ : ∃ N, N = bs L[k].uri.scheme := ⟨_, rfl⟩
   rw [← hS] at x1 y1
   obtain ⟨U, hU⟩ : ∃ N, N = bs L[k].uri.user := ⟨_, rfl⟩
   rw [← hU] at x2 y2
   obtain ⟨H, hH⟩ : ∃ N, N = bs L[k].uri.host := ⟨_, rfl⟩
   rw [← hH] at x3 y3
   obtain ⟨n, hn⟩ : ∃ p, p = L[k].uri.port := ⟨_, rfl⟩
   rw [← hn] at x4 y4
   obtain ⟨F, hF⟩ : ∃ F, F = L[k].uri.ps := ⟨_, rfl⟩
   rw [← hF] at Hg1 Hj1 x5 y5
   obtain ⟨G, hG⟩ : ∃ F, F = L[k].uri.hs := ⟨_, rfl⟩
   rw [← hG] at Hg2 Hj2 x6 y6
   obtain ⟨P, hP⟩ : ∃ F, F = L[k].ps := ⟨_, rfl⟩
   rw [← hP] at Hg3 Hj3 x7 y7
   have cS := fun d os => Calls.regrown_of (same5_yes D S U H n (.slice a0 F.length d0) (.slice a1 G.length d1) (.slice a2 P.length d2) (.slice a3 F.length d3) (.slice a4 G.length d4) (.slice a5 P.length d5) F G P (grow (redrawn wr d) os) (Hg1.out.below (below_regrown wr d os) (ρ _)) (Hg2.out.below (below_regrown wr d os) (ρ _)) (Hg3.out.below (below_regrown wr d os) (ρ _)) (Hj1.out.below (below_regrown wr d os) (ρ _)) (Hj2.out.below (below_regrown wr d os) (ρ _)) (Hj3.out.below (below_regrown wr d os) (ρ _)))
   have k0 : (0 : Int) ≤ (k : Int) := by omega
   have k1 : (k : Int) < (L.length : Int) := by omega
   replace x0 := cell_regrown x0
   replace y0 := cell_regrown y0
   replace x1 := cell_regrown x1
   replace y1 := cell_regrown y1
   replace x2 := cell_regrown x2
   replace y2 := cell_regrown y2
   replace x3 := cell_regrown x3
   replace y3 := cell_regrown y3
   replace x4 := cell_regrown x4
   replace y4 := cell_regrown y4
   replace x5 := cell_regrown x5
   replace y5 := cell_regrown y5
   replace x6 := cell_regrown x6
   replace y6 := cell_regrown y6
   replace x7 := cell_regrown x7
   replace y7 := cell_regrown y7
   clear hc1 hc2 g1 g2 g3 j1 j2 j3 hD hS hU hH hn hF hG hP
   go_wp2
   refine wp_region_quiet_below (by kernel_rfl) (by kernel_rfl) ?_
   repeat (first | go_big_quiet_step (with_reducible exact cS _ _) | quiet_step (with_reducible exact cS _ _))
   refine wpQuiet_nil ?_
   intro wq hw'
   have hBq := regrownA hw'
   clear hw' cS x0 x1 x2 x3 x4 x5 x6 x7 y0 y1 y2 y3 y4 y5 y6 y7
   go_wp2
   go_roundw
   case rel => exact ⟨k + 1, by omega, by go_num, hB.trans (hBq.mono hB.size)⟩
   case measure => simp [intOf]; omega
  ·go_wp2
   go_ret
   exact ⟨rfl, hB⟩
set_option maxRecDepth 100000 in
set_option maxHeartbeats 12800000 in
theorem same10_c (va vb : Value) (r : Rqt) (w : World) (ha : RRqt w va r) (hb : RRqt w vb r) :
  Calls Tryz.prog 11 #[va, vb] w fun e w' => e = .returned (.bool true) ∧ Below w.heap.size w w' := by
 obtain ⟨e1, y1, e2, y2, e3, y3, e4, y4, e5, y5, e6, y6, e7, y7, e8, y8, e9, y9, e10, y10, e11, y11, e12, y12, rfl, h1, h2, h3, h4, h5, h6, h7, h8, h9, h10, h11, h12⟩ := ha.lit
 obtain ⟨g1, z1, g2, z2, g3, z3, g4, z4, g5, z5, g6, z6, g7, z7, g8, z8, g9, z9, g10, z10, g11, z11, g12, z12, rfl, k1, k2, k3, k4, k5, k6, k7, k8, k9, k10, k11, k12⟩ := hb.lit
 clear ha hb
 have HS1 := κ (fun (wx : World) (h : Below w.heap.size w wx) => same5_yes (bs r.fr.disp) (bs r.fr.uri.scheme) (bs r.fr.uri.user) (bs r.fr.uri.host) r.fr.uri.port _ _ _ _ _ _ r.fr.uri.ps r.fr.uri.hs r.fr.ps wx (h3.below h (ρ _)) (h4.below h (ρ _)) (h5.below h (ρ _)) (k3.below h (ρ _)) (k4.below h (ρ _)) (k5.below h (ρ _)))
 have HS2 := κ (fun (wx : World) (h : Below w.heap.size w wx) => same5_yes (bs r.dst.disp) (bs r.dst.uri.scheme) (bs r.dst.uri.user) (bs r.dst.uri.host) r.dst.uri.port _ _ _ _ _ _ r.dst.uri.ps r.dst.uri.hs r.dst.ps wx (h6.below h (ρ _)) (h7.below h (ρ _)) (h8.below h (ρ _)) (k6.below h (ρ _)) (k7.below h (ρ _)) (k8.below h (ρ _)))
 have HS3 := κ (fun (wx : World) (h : Below w.heap.size w wx) => same3_yes (bs r.tgt.scheme) (bs r.tgt.user) (bs r.tgt.host) r.tgt.port _ _ _ _ r.tgt.ps r.tgt.hs wx (h1.below h (ρ _)) (h2.below h (ρ _)) (k1.below h (ρ _)) (k2.below h (ρ _)))
 have HS4 := κ (fun (wx : World) (h : Below w.heap.size w wx) => texts_c _ _ r.routes r.routes wx (h11.below h (ρ _)) (k11.below h (ρ _)))
 rw [show (r.routes == r.routes) = true by simp] at HS4
 have HS5 := κ (fun (wx : World) (h : Below w.heap.size w wx) => texts_c _ _ r.accept r.accept wx (h12.below h (ρ _)) (k12.below h (ρ _)))
 rw [show (r.accept == r.accept) = true by simp] at HS5
 have HS6 := κ (fun (wx : World) (h : Below w.heap.size w wx) => sameE_c (bs r.evn) _ r.evp (bs r.evn) _ r.evp wx (h9.below h (ρ _)) (k9.below h (ρ _)))
 rw [show evEq (us (bs r.evn)) r.evp (us (bs r.evn)) r.evp = true by unfold evEq; simp] at HS6
 have HS7 := κ (fun (wx : World) (h : Below w.heap.size w wx) => allA_c _ _ r.contact wx (h10.below h (ρ _)) (k10.below h (ρ _)))
 clear h1 h2 h3 h4 h5 h6 h7 h8 h9 h10 h11 h12 k1 k2 k3 k4 k5 k6 k7 k8 k9 k10 k11 k12
 obtain ⟨vs, hvs⟩ : ∃ vs : Array Value, vs = #[(.string (bs r.meth)), (.string (bs r.tgt.scheme)), (.string (bs r.tgt.user)), (.string (bs r.tgt.host)), (.int .i64 r.tgt.port), (.slice e1 r.tgt.ps.length y1), (.slice e2 r.tgt.hs.length y2), (.string (bs r.branch)), (.string (bs r.by_)), (.string (bs r.fr.disp)), (.string (bs r.fr.uri.scheme)), (.string (bs r.fr.uri.user)), (.string (bs r.fr.uri.host)), (.int .i64 r.fr.uri.port), (.slice e3 r.fr.uri.ps.length y3), (.slice e4 r.fr.uri.hs.length y4), (.slice e5 r.fr.ps.length y5), (.string (bs r.dst.disp)), (.string (bs r.dst.uri.scheme)), (.string (bs r.dst.uri.user)), (.string (bs r.dst.uri.host)), (.int .i64 r.dst.uri.port), (.slice e6 r.dst.uri.ps.length y6), (.slice e7 r.dst.uri.hs.length y7), (.slice e8 r.dst.ps.length y8), (.string (bs r.fromT)), (.string (bs r.toT)), (.string (bs r.call)), (.int .i64 r.seq), (.int .i64 r.exp), (.string (bs r.evn)), (.slice e9 r.evp.length y9), (.slice e10 r.contact.length y10), (.slice e11 r.routes.length y11), (.slice e12 r.accept.length y12), (.string (bs r.typ)), (.string (bs r.mat)), (.string (bs r.body))] := ⟨_, rfl⟩
 obtain ⟨us_, hus⟩ : ∃ us : Array Value, us = #[(.string (bs r.meth)), (.string (bs r.tgt.scheme)), (.string (bs r.tgt.user)), (.string (bs r.tgt.host)), (.int .i64 r.tgt.port), (.slice g1 r.tgt.ps.length z1), (.slice g2 r.tgt.hs.length z2), (.string (bs r.branch)), (.string (bs r.by_)), (.string (bs r.fr.disp)), (.string (bs r.fr.uri.scheme)), (.string (bs r.fr.uri.user)), (.string (bs r.fr.uri.host)), (.int .i64 r.fr.uri.port), (.slice g3 r.fr.uri.ps.length z3), (.slice g4 r.fr.uri.hs.length z4), (.slice g5 r.fr.ps.length z5), (.string (bs r.dst.disp)), (.string (bs r.dst.uri.scheme)), (.string (bs r.dst.uri.user)), (.string (bs r.dst.uri.host)), (.int .i64 r.dst.uri.port), (.slice g6 r.dst.uri.ps.length z6), (.slice g7 r.dst.uri.hs.length z7), (.slice g8 r.dst.ps.length z8), (.string (bs r.fromT)), (.string (bs r.toT)), (.string (bs r.call)), (.int .i64 r.seq), (.int .i64 r.exp), (.string (bs r.evn)), (.slice g9 r.evp.length z9), (.slice g10 r.contact.length z10), (.slice g11 r.routes.length z11), (.slice g12 r.accept.length z12), (.string (bs r.typ)), (.string (bs r.mat)), (.string (bs r.body))] := ⟨_, rfl⟩
 rw [← hvs, ← hus]
 have hB0 : Below w.heap.size w ((w.alloc (.cells vs 37)).alloc (.cells us_ 37)) := ((Below.refl _ _).alloc (ρ _) _).alloc (by rw [World.size_alloc]; omega) _
 have ba0 : Blk ((w.alloc (.cells vs 37)).alloc (.cells us_ 37)) w.heap.size 37 vs := (Blk.new w 37 vs).alloc _
 have bb0 : Blk ((w.alloc (.cells vs 37)).alloc (.cells us_ 37)) (w.heap.size + 1) 37 us_ := by
  have := Blk.new (w.alloc (.cells vs 37)) 37 us_
  rwa [World.size_alloc] at this
 obtain ⟨w0, hw0⟩ : ∃ w0, w0 = ((w.alloc (.cells vs 37)).alloc (.cells us_ 37)) := ⟨_, rfl⟩
 rw [← hw0] at hB0 ba0 bb0
 have HW0 := κ hw0
 have HX := κ (fun (wx : World) (h : Below w0.heap.size w0 wx) => (show wx.cell? ⟨w.heap.size, 0, none⟩ = some (.string (bs r.meth)) ∧ wx.cell? ⟨w.heap.size, 1, none⟩ = some (.string (bs r.tgt.scheme)) ∧ wx.cell? ⟨w.heap.size, 2, none⟩ = some (.string (bs r.tgt.user)) ∧ wx.cell? ⟨w.heap.size, 3, none⟩ = some (.string (bs r.tgt.host)) ∧ wx.cell? ⟨w.heap.size, 4, none⟩ = some (.int .i64 r.tgt.port) ∧ wx.cell? ⟨w.heap.size, 5, none⟩ = some (.slice e1 r.tgt.ps.length y1) ∧ wx.cell? ⟨w.heap.size, 6, none⟩ = some (.slice e2 r.tgt.hs.length y2) ∧ wx.cell? ⟨w.heap.size, 7, none⟩ = some (.string (bs r.branch)) ∧ wx.cell? ⟨w.heap.size, 8, none⟩ = some (.string (bs r.by_)) ∧ wx.cell? ⟨w.heap.size, 9, none⟩ = some (.string (bs r.fr.disp)) ∧ wx.cell? ⟨w.heap.size, 10, none⟩ = some (.string (bs r.fr.uri.scheme)) ∧ wx.cell? ⟨w.heap.size, 11, none⟩ = some (.string (bs r.fr.uri.user)) ∧ wx.cell? ⟨w.heap.size, 12, none⟩ = some (.string (bs r.fr.uri.host)) ∧ wx.cell? ⟨w.heap.size, 13, none⟩ = some (.int .i64 r.fr.uri.port) ∧ wx.cell? ⟨w.heap.size, 14, none⟩ = some (.slice e3 r.fr.uri.ps.length y3) ∧ wx.cell? ⟨w.heap.size, 15, none⟩ = some (.slice e4 r.fr.uri.hs.length y4) ∧ wx.cell? ⟨w.heap.size, 16, none⟩ = some (.slice e5 r.fr.ps.length y5) ∧ wx.cell? ⟨w.heap.size, 17, none⟩ = some (.string (bs r.dst.disp)) ∧ wx.cell? ⟨w.heap.size, 18, none⟩ = some (.string (bs r.dst.uri.scheme)) ∧ wx.cell? ⟨w.heap.size, 19, none⟩ = some (.string (bs r.dst.uri.user)) ∧ wx.cell? ⟨w.heap.size, 20, none⟩ = some (.string (bs r.dst.uri.host)) ∧ wx.cell? ⟨w.heap.size, 21, none⟩ = some (.int .i64 r.dst.uri.port) ∧ wx.cell? ⟨w.heap.size, 22, none⟩ = some (.slice e6 r.dst.uri.ps.length y6) ∧ wx.cell? ⟨w.heap.size, 23, none⟩ = some (.slice e7 r.dst.uri.hs.length y7) ∧ wx.cell? ⟨w.heap.size, 24, none⟩ = some (.slice e8 r.dst.ps.length y8) ∧ wx.cell? ⟨w.heap.size, 25, none⟩ = some (.string (bs r.fromT)) ∧ wx.cell? ⟨w.heap.size, 26, none⟩ = some (.string (bs r.toT)) ∧ wx.cell? ⟨w.heap.size, 27, none⟩ = some (.string (bs r.call)) ∧ wx.cell? ⟨w.heap.size, 28, none⟩ = some (.int .i64 r.seq) ∧ wx.cell? ⟨w.heap.size, 29, none⟩ = some (.int .i64 r.exp) ∧ wx.cell? ⟨w.heap.size, 30, none⟩ = some (.string (bs r.evn)) ∧ wx.cell? ⟨w.heap.size, 31, none⟩ = some (.slice e9 r.evp.length y9) ∧ wx.cell? ⟨w.heap.size, 32, none⟩ = some (.slice e10 r.contact.length y10) ∧ wx.cell? ⟨w.heap.size, 33, none⟩ = some (.slice e11 r.routes.length y11) ∧ wx.cell? ⟨w.heap.size, 34, none⟩ = some (.slice e12 r.accept.length y12) ∧ wx.cell? ⟨w.heap.size, 35, none⟩ = some (.string (bs r.typ)) ∧ wx.cell? ⟨w.heap.size, 36, none⟩ = some (.string (bs r.mat)) ∧ wx.cell? ⟨w.heap.size, 37, none⟩ = some (.string (bs r.body)) from by
  have b := ba0.call h
  rw [hvs] at b
  exact ⟨boxedCell b 0, boxedCell b 1, boxedCell b 2, boxedCell b 3, boxedCell b 4, boxedCell b 5, boxedCell b 6, boxedCell b 7, boxedCell b 8, boxedCell b 9, boxedCell b 10, boxedCell b 11, boxedCell b 12, boxedCell b 13, boxedCell b 14, boxedCell b 15, boxedCell b 16, boxedCell b 17, boxedCell b 18, boxedCell b 19, boxedCell b 20, boxedCell b 21, boxedCell b 22, boxedCell b 23, boxedCell b 24, boxedCell b 25, boxedCell b 26, boxedCell b 27, boxedCell b 28, boxedCell b 29, boxedCell b 30, boxedCell b 31, boxedCell b 32, boxedCell b 33, boxedCell b 34, boxedCell b 35, boxedCell b 36, boxedCell b 37⟩))
 have HY := κ (fun (wx : World) (h : Below w0.heap.size w0 wx) => (show wx.cell? ⟨w.heap.size + 1, 0, none⟩ = some (.string (bs r.meth)) ∧ wx.cell? ⟨w.heap.size + 1, 1, none⟩ = some (.string (bs r.tgt.scheme)) ∧ wx.cell? ⟨w.heap.size + 1, 2, none⟩ = some (.string (bs r.tgt.user)) ∧ wx.cell? ⟨w.heap.size + 1, 3, none⟩ = some (.string (bs r.tgt.host)) ∧ wx.cell? ⟨w.heap.size + 1, 4, none⟩ = some (.int .i64 r.tgt.port) ∧ wx.cell? ⟨w.heap.size + 1, 5, none⟩ = some (.slice g1 r.tgt.ps.length z1) ∧ wx.cell? ⟨w.heap.size + 1, 6, none⟩ = some (.slice g2 r.tgt.hs.length z2) ∧ wx.cell? ⟨w.heap.size + 1, 7, none⟩ = some (.string (bs r.branch)) ∧ wx.cell? ⟨w.heap.size + 1, 8, none⟩ = some (.string (bs r.by_)) ∧ wx.cell? ⟨w.heap.size + 1, 9, none⟩ = some (.string (bs r.fr.disp)) ∧ wx.cell? ⟨w.heap.size + 1, 10, none⟩ = some (.string (bs r.fr.uri.scheme)) ∧ wx.cell? ⟨w.heap.size + 1, 11, none⟩ = some (.string (bs r.fr.uri.user)) ∧ wx.cell? ⟨w.heap.size + 1, 12, none⟩ = some (.string (bs r.fr.uri.host)) ∧ wx.cell? ⟨w.heap.size + 1, 13, none⟩ = some (.int .i64 r.fr.uri.port) ∧ wx.cell? ⟨w.heap.size + 1, 14, none⟩ = some (.slice g3 r.fr.uri.ps.length z3) ∧ wx.cell? ⟨w.heap.size + 1, 15, none⟩ = some (.slice g4 r.fr.uri.hs.length z4) ∧ wx.cell? ⟨w.heap.size + 1, 16, none⟩ = some (.slice g5 r.fr.ps.length z5) ∧ wx.cell? ⟨w.heap.size + 1, 17, none⟩ = some (.string (bs r.dst.disp)) ∧ wx.cell? ⟨w.heap.size + 1, 18, none⟩ = some (.string (bs r.dst.uri.scheme)) ∧ wx.cell? ⟨w.heap.size + 1, 19, none⟩ = some (.string (bs r.dst.uri.user)) ∧ wx.cell? ⟨w.heap.size + 1, 20, none⟩ = some (.string (bs r.dst.uri.host)) ∧ wx.cell? ⟨w.heap.size + 1, 21, none⟩ = some (.int .i64 r.dst.uri.port) ∧ wx.cell? ⟨w.heap.size + 1, 22, none⟩ = some (.slice g6 r.dst.uri.ps.length z6) ∧ wx.cell? ⟨w.heap.size + 1, 23, none⟩ = some (.slice g7 r.dst.uri.hs.length z7) ∧ wx.cell? ⟨w.heap.size + 1, 24, none⟩ = some (.slice g8 r.dst.ps.length z8) ∧ wx.cell? ⟨w.heap.size + 1, 25, none⟩ = some (.string (bs r.fromT)) ∧ wx.cell? ⟨w.heap.size + 1, 26, none⟩ = some (.string (bs r.toT)) ∧ wx.cell? ⟨w.heap.size + 1, 27, none⟩ = some (.string (bs r.call)) ∧ wx.cell? ⟨w.heap.size + 1, 28, none⟩ = some (.int .i64 r.seq) ∧ wx.cell? ⟨w.heap.size + 1, 29, none⟩ = some (.int .i64 r.exp) ∧ wx.cell? ⟨w.heap.size + 1, 30, none⟩ = some (.string (bs r.evn)) ∧ wx.cell? ⟨w.heap.size + 1, 31, none⟩ = some (.slice g9 r.evp.length z9) ∧ wx.cell? ⟨w.heap.size + 1, 32, none⟩ = some (.slice g10 r.contact.length z10) ∧ wx.cell? ⟨w.heap.size + 1, 33, none⟩ = some (.slice g11 r.routes.length z11) ∧ wx.cell? ⟨w.heap.size + 1, 34, none⟩ = some (.slice g12 r.accept.length z12) ∧ wx.cell? ⟨w.heap.size + 1, 35, none⟩ = some (.string (bs r.typ)) ∧ wx.cell? ⟨w.heap.size + 1, 36, none⟩ = some (.string (bs r.mat)) ∧ wx.cell? ⟨w.heap.size + 1, 37, none⟩ = some (.string (bs r.body)) from by
  have b := bb0.call h
  rw [hus] at b
  exact ⟨boxedCell b 0, boxedCell b 1, boxedCell b 2, boxedCell b 3, boxedCell b 4, boxedCell b 5, boxedCell b 6, boxedCell b 7, boxedCell b 8, boxedCell b 9, boxedCell b 10, boxedCell b 11, boxedCell b 12, boxedCell b 13, boxedCell b 14, boxedCell b 15, boxedCell b 16, boxedCell b 17, boxedCell b 18, boxedCell b 19, boxedCell b 20, boxedCell b 21, boxedCell b 22, boxedCell b 23, boxedCell b 24, boxedCell b 25, boxedCell b 26, boxedCell b 27, boxedCell b 28, boxedCell b 29, boxedCell b 30, boxedCell b 31, boxedCell b 32, boxedCell b 33, boxedCell b 34, boxedCell b 35, boxedCell b 36, boxedCell b 37⟩))
 have HB := κ hB0
 have hZ : Below w0.heap.size w0 w0 := Below.refl _ _
 obtain ⟨p0, p1, p2, p3, p4, p5, p6, p7, p8, p9, p10, p11, p12, p13, p14, p15, p16, p17, p18, p19, p20, p21, p22, p23, p24, p25, p26, p27, p28, p29, p30, p31, p32, p33, p34, p35, p36, p37⟩ := HX.out _ hZ
 obtain ⟨q0, q1, q2, q3, q4, q5, q6, q7, q8, q9, q10, q11, q12, q13, q14, q15, q16, q17, q18, q19, q20, q21, q22, q23, q24, q25, q26, q27, q28, q29, q30, q31, q32, q33, q34, q35, q36, q37⟩ := HY.out _ hZ
 have hBB := HB.out.trans (hZ.mono HB.out.size)
 clear hw0 hB0 ba0 bb0 hvs hus
 go_enter Tryz.func11, Tryz.ntmps11
 go_upto_region 1 with fail
 rw [← HW0.out]
 go_wp2_with (first | (go_at_call 39; first | ((with_reducible refine (HS1.out _ hBB).mono ?_); rintro e wx ⟨rfl, hC⟩; replace hZ := hZ.trans (hC.mono hZ.size); clear hC; clear p0 p1 p2 p3 p4 p5 p6 p7 p8 p9 p10 p11 p12 p13 p14 p15 p16 p17 p18 p19 p20 p21 p22 p23 p24 p25 p26 p27 p28 p29 p30 p31 p32 p33 p34 p35 p36 p37 q0 q1 q2 q3 q4 q5 q6 q7 q8 q9 q10 q11 q12 q13 q14 q15 q16 q17 q18 q19 q20 q21 q22 q23 q24 q25 q26 q27 q28 q29 q30 q31 q32 q33 q34 q35 q36 q37 hBB; obtain ⟨p0, p1, p2, p3, p4, p5, p6, p7, p8, p9, p10, p11, p12, p13, p14, p15, p16, p17, p18, p19, p20, p21, p22, p23, p24, p25, p26, p27, p28, p29, p30, p31, p32, p33, p34, p35, p36, p37⟩ := HX.out _ hZ; obtain ⟨q0, q1, q2, q3, q4, q5, q6, q7, q8, q9, q10, q11, q12, q13, q14, q15, q16, q17, q18, q19, q20, q21, q22, q23, q24, q25, q26, q27, q28, q29, q30, q31, q32, q33, q34, q35, q36, q37⟩ := HY.out _ hZ; have hBB := HB.out.trans (hZ.mono HB.out.size)) | ((with_reducible refine (HS2.out _ hBB).mono ?_); rintro e wx ⟨rfl, hC⟩; replace hZ := hZ.trans (hC.mono hZ.size); clear hC; clear p0 p1 p2 p3 p4 p5 p6 p7 p8 p9 p10 p11 p12 p13 p14 p15 p16 p17 p18 p19 p20 p21 p22 p23 p24 p25 p26 p27 p28 p29 p30 p31 p32 p33 p34 p35 p36 p37 q0 q1 q2 q3 q4 q5 q6 q7 q8 q9 q10 q11 q12 q13 q14 q15 q16 q17 q18 q19 q20 q21 q22 q23 q24 q25 q26 q27 q28 q29 q30 q31 q32 q33 q34 q35 q36 q37 hBB; obtain ⟨p0, p1, p2, p3, p4, p5, p6, p7, p8, p9, p10, p11, p12, p13, p14, p15, p16, p17, p18, p19, p20, p21, p22, p23, p24, p25, p26, p27, p28, p29, p30, p31, p32, p33, p34, p35, p36, p37⟩ := HX.out _ hZ; obtain ⟨q0, q1, q2, q3, q4, q5, q6, q7, q8, q9, q10, q11, q12, q13, q14, q15, q16, q17, q18, q19, q20, q21, q22, q23, q24, q25, q26, q27, q28, q29, q30, q31, q32, q33, q34, q35, q36, q37⟩ := HY.out _ hZ; have hBB := HB.out.trans (hZ.mono HB.out.size))) | (go_at_call 38; first | ((with_reducible refine (HS3.out _ hBB).mono ?_); rintro e wx ⟨rfl, hC⟩; replace hZ := hZ.trans (hC.mono hZ.size); clear hC; clear p0 p1 p2 p3 p4 p5 p6 p7 p8 p9 p10 p11 p12 p13 p14 p15 p16 p17 p18 p19 p20 p21 p22 p23 p24 p25 p26 p27 p28 p29 p30 p31 p32 p33 p34 p35 p36 p37 q0 q1 q2 q3 q4 q5 q6 q7 q8 q9 q10 q11 q12 q13 q14 q15 q16 q17 q18 q19 q20 q21 q22 q23 q24 q25 q26 q27 q28 q29 q30 q31 q32 q33 q34 q35 q36 q37 hBB; obtain ⟨p0, p1, p2, p3, p4, p5, p6, p7, p8, p9, p10, p11, p12, p13, p14, p15, p16, p17, p18, p19, p20, p21, p22, p23, p24, p25, p26, p27, p28, p29, p30, p31, p32, p33, p34, p35, p36, p37⟩ := HX.out _ hZ; obtain ⟨q0, q1, q2, q3, q4, q5, q6, q7, q8, q9, q10, q11, q12, q13, q14, q15, q16, q17, q18, q19, q20, q21, q22, q23, q24, q25, q26, q27, q28, q29, q30, q31, q32, q33, q34, q35, q36, q37⟩ := HY.out _ hZ; have hBB := HB.out.trans (hZ.mono HB.out.size))) | (go_at_call 42; first | ((with_reducible refine (HS4.out _ hBB).mono ?_); rintro e wx ⟨rfl, hC⟩; replace hZ := hZ.trans (hC.below (B := w0.heap.size)); clear hC; clear p0 p1 p2 p3 p4 p5 p6 p7 p8 p9 p10 p11 p12 p13 p14 p15 p16 p17 p18 p19 p20 p21 p22 p23 p24 p25 p26 p27 p28 p29 p30 p31 p32 p33 p34 p35 p36 p37 q0 q1 q2 q3 q4 q5 q6 q7 q8 q9 q10 q11 q12 q13 q14 q15 q16 q17 q18 q19 q20 q21 q22 q23 q24 q25 q26 q27 q28 q29 q30 q31 q32 q33 q34 q35 q36 q37 hBB; obtain ⟨p0, p1, p2, p3, p4, p5, p6, p7, p8, p9, p10, p11, p12, p13, p14, p15, p16, p17, p18, p19, p20, p21, p22, p23, p24, p25, p26, p27, p28, p29, p30, p31, p32, p33, p34, p35, p36, p37⟩ := HX.out _ hZ; obtain ⟨q0, q1, q2, q3, q4, q5, q6, q7, q8, q9, q10, q11, q12, q13, q14, q15, q16, q17, q18, q19, q20, q21, q22, q23, q24, q25, q26, q27, q28, q29, q30, q31, q32, q33, q34, q35, q36, q37⟩ := HY.out _ hZ; have hBB := HB.out.trans (hZ.mono HB.out.size)) | ((with_reducible refine (HS5.out _ hBB).mono ?_); rintro e wx ⟨rfl, hC⟩; replace hZ := hZ.trans (hC.below (B := w0.heap.size)); clear hC; clear p0 p1 p2 p3 p4 p5 p6 p7 p8 p9 p10 p11 p12 p13 p14 p15 p16 p17 p18 p19 p20 p21 p22 p23 p24 p25 p26 p27 p28 p29 p30 p31 p32 p33 p34 p35 p36 p37 q0 q1 q2 q3 q4 q5 q6 q7 q8 q9 q10 q11 q12 q13 q14 q15 q16 q17 q18 q19 q20 q21 q22 q23 q24 q25 q26 q27 q28 q29 q30 q31 q32 q33 q34 q35 q36 q37 hBB; obtain ⟨p0, p1, p2, p3, p4, p5, p6, p7, p8, p9, p10, p11, p12, p13, p14, p15, p16, p17, p18, p19, p20, p21, p22, p23, p24, p25, p26, p27, p28, p29, p30, p31, p32, p33, p34, p35, p36, p37⟩ := HX.out _ hZ; obtain ⟨q0, q1, q2, q3, q4, q5, q6, q7, q8, q9, q10, q11, q12, q13, q14, q15, q16, q17, q18, q19, q20, q21, q22, q23, q24, q25, q26, q27, q28, q29, q30, q31, q32, q33, q34, q35, q36, q37⟩ := HY.out _ hZ; have hBB := HB.out.trans (hZ.mono HB.out.size))) | (go_at_call 40; first | ((with_reducible refine (HS6.out _ hBB).mono ?_); rintro e wx ⟨rfl, hC⟩; replace hZ := hZ.trans (hC.mono hZ.size); clear hC; clear p0 p1 p2 p3 p4 p5 p6 p7 p8 p9 p10 p11 p12 p13 p14 p15 p16 p17 p18 p19 p20 p21 p22 p23 p24 p25 p26 p27 p28 p29 p30 p31 p32 p33 p34 p35 p36 p37 q0 q1 q2 q3 q4 q5 q6 q7 q8 q9 q10 q11 q12 q13 q14 q15 q16 q17 q18 q19 q20 q21 q22 q23 q24 q25 q26 q27 q28 q29 q30 q31 q32 q33 q34 q35 q36 q37 hBB; obtain ⟨p0, p1, p2, p3, p4, p5, p6, p7, p8, p9, p10, p11, p12, p13, p14, p15, p16, p17, p18, p19, p20, p21, p22, p23, p24, p25, p26, p27, p28, p29, p30, p31, p32, p33, p34, p35, p36, p37⟩ := HX.out _ hZ; obtain ⟨q0, q1, q2, q3, q4, q5, q6, q7, q8, q9, q10, q11, q12, q13, q14, q15, q16, q17, q18, q19, q20, q21, q22, q23, q24, q25, q26, q27, q28, q29, q30, q31, q32, q33, q34, q35, q36, q37⟩ := HY.out _ hZ; have hBB := HB.out.trans (hZ.mono HB.out.size))) | (go_at_call 41; first | ((with_reducible refine (HS7.out _ hBB).mono ?_); rintro e wx ⟨rfl, hC⟩; replace hZ := hZ.trans (hC.mono hZ.size); clear hC; clear p0 p1 p2 p3 p4 p5 p6 p7 p8 p9 p10 p11 p12 p13 p14 p15 p16 p17 p18 p19 p20 p21 p22 p23 p24 p25 p26 p27 p28 p29 p30 p31 p32 p33 p34 p35 p36 p37 q0 q1 q2 q3 q4 q5 q6 q7 q8 q9 q10 q11 q12 q13 q14 q15 q16 q17 q18 q19 q20 q21 q22 q23 q24 q25 q26 q27 q28 q29 q30 q31 q32 q33 q34 q35 q36 q37 hBB; obtain ⟨p0, p1, p2, p3, p4, p5, p6, p7, p8, p9, p10, p11, p12, p13, p14, p15, p16, p17, p18, p19, p20, p21, p22, p23, p24, p25, p26, p27, p28, p29, p30, p31, p32, p33, p34, p35, p36, p37⟩ := HX.out _ hZ; obtain ⟨q0, q1, q2, q3, q4, q5, q6, q7, q8, q9, q10, q11, q12, q13, q14, q15, q16, q17, q18, q19, q20, q21, q22, q23, q24, q25, q26, q27, q28, q29, q30, q31, q32, q33, q34, q35, q36, q37⟩ := HY.out _ hZ; have hBB := HB.out.trans (hZ.mono HB.out.size))))
 go_ret
 exact ⟨rfl, hBB⟩
end Go.Proofs.YtgkilllbkljibaaGreatDoor
