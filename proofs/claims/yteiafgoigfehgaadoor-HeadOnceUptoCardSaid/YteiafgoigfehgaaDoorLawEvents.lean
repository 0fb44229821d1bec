/-
  The law HeadEvents: the walk.
-/
import Derived.Test.YteiafgoigfehgaaDoorAwake8
import Derived.Test.YteiafgoigfehgaaDoorSho
import Derived.Test.YteiafgoigfehgaaDoorEvt
namespace Go.Proofs.YteiafgoigfehgaaDoor
open Go.RowKit Go.Sort

theorem regrown_below {w wq : World} (h : ∃ p : Regrown, wq = grow (redrawn w p.d) p.os) : Below w.heap.size w wq := by
  obtain ⟨p, rfl⟩ := h
  exact below_regrown w p.d p.os
theorem evEq_self (n : List UInt8) (F : List Prm) : evEq n F n F = true := by unfold evEq; simp
/-- the two boxes that a call lays first -/
theorem twoCall {w w1 : World} {t t' : TypeId} {cs cs' : Array Value} (hC : Below ((w.alloc (.cells cs t)).alloc (.cells cs' t')).heap.size ((w.alloc (.cells cs t)).alloc (.cells cs' t')) w1) :
    Blk w1 w.heap.size t cs ∧ Blk w1 (w.heap.size + 1) t' cs' ∧ Below w.heap.size w w1 ∧ w.heap.size + 1 < w1.heap.size := by
  obtain ⟨D1, hB1, hz1⟩ := newCall hC
  have D0 := (Blk.new w t cs).call hB1
  rw [World.size_alloc] at D1 hB1 hz1
  exact ⟨D0, D1, ((Below.refl w.heap.size w).alloc (Nat.le_refl _) _).trans (hB1.mono (Nat.le_succ _)), hz1⟩

set_option maxRecDepth 100000 in
set_option maxHeartbeats 6400000 in
theorem headEvents_walk (s : ByteArray) (hs : s.size ≤ 1048576) (N : ByteArray) (u : Value) (F : List Prm) (hN : N.size ≤ 1048576) (M : ByteArray) (v : Value) (G : List Prm) (_hM : M.size ≤ 1048576) (w : World) (hm : Ml w)
    (hu : RPrms w u F) (hF : ∀ p ∈ F, p.name.length ≤ 1048576 ∧ p.value.length ≤ 1048576) (hv : RPrms w v G) (hG : ∀ p ∈ G, p.name.length ≤ 1048576 ∧ p.value.length ≤ 1048576) :
    Calls Tryd.prog 8 #[.string s, .agg #[.string N, u], .agg #[.string M, v]] w fun e w' => e = .returned (.bool true) ∧ Below w.heap.size w w' := by
  have HM := Lib.hid hm
  have HU := Lib.hid hu
  have HV := Lib.hid hv
  obtain ⟨ao, cap, rfl, hml1, _⟩ := hu.form
  obtain ⟨bo, cap', rfl, hml2, _⟩ := hv.form
  unfold maxLen at hml1 hml2
  have HFB := Lib.hid (fun p hp => (⟨Nat.le_trans (hF p hp).1 (by decide), Nat.le_trans (hF p hp).2 (by decide)⟩ : p.name.length ≤ 4294967280 ∧ p.value.length ≤ 4294967280))
  have HGB := Lib.hid (fun p hp => (⟨Nat.le_trans (hG p hp).1 (by decide), Nat.le_trans (hG p hp).2 (by decide)⟩ : p.name.length ≤ 4294967280 ∧ p.value.length ≤ 4294967280))
  clear hm hu hv hF hG
  have HW := Lib.hid (fun wx hx => awake_c wx hx)
  have hR0 : Below w.heap.size w w := Below.refl _ _
  have hcase : 100 < F.length ∨ (¬ 100 < F.length ∧ 100 < G.length) ∨ (¬ 100 < F.length ∧ ¬ 100 < G.length ∧ 5000 < s.size) ∨ (¬ 100 < F.length ∧ ¬ 100 < G.length ∧ ¬ 5000 < s.size) := by omega
  rcases hcase with h1 | ⟨h1, h2⟩ | ⟨h1, h2, h3⟩ | ⟨h1, h2, h3⟩
  case inr.inr.inr =>
    have HE := Lib.hid (fun wx hx => event_c s (by omega) wx hx)
    have HER := Lib.hid (fun wx => eventR_c s (by omega) wx)
    unfold EvPost at HE HER
    obtain ⟨ev, hev⟩ : ∃ ev, ev = evS (us s) := ⟨_, rfl⟩
    rw [← hev] at HE HER
    clear hev
    obtain ⟨⟨en, eF⟩, ee⟩ := ev
    dsimp only at HE HER
    obtain ⟨P, hP⟩ : ∃ P, P = bs en := ⟨_, rfl⟩
    rw [← hP] at HE HER
    clear hP
    have HP := Lib.hid (fun wx hx hv => print_c N (.slice ao F.length cap) F (by omega) wx hx hv HFB.out)
    have HPR := Lib.hid (fun wx hv => printR_c N (.slice ao F.length cap) F (by omega) wx hv HFB.out)
    obtain ⟨pr, hpr⟩ : ∃ pr, pr = printS (us N) F := ⟨_, rfl⟩
    rw [← hpr] at HP HPR
    clear hpr
    obtain ⟨ps, pe⟩ := pr
    dsimp only at HP HPR
    obtain ⟨PS, hPS⟩ : ∃ PS, PS = bs ps := ⟨_, rfl⟩
    rw [← hPS] at HP HPR
    clear hPS
    go_enter Tryd.func8, Tryd.ntmps8
    go_wp2_with (first | (go_at_call 29; refine (HE.out _ (HM.out.below ((hR0.alloc (Nat.le_refl _) _).alloc (by rw [World.size_alloc]; omega) _))).mono ?_; rintro e w1 ⟨ua, rfl, hua, _, hC⟩; obtain ⟨D0, D1, hB1, hz1⟩ := twoCall hC; have HA := Lib.hid hua; obtain ⟨a1, a2, rfl, _, _⟩ := hua.form; have HD0 := Lib.hid D0; have HD1 := Lib.hid D1; clear D0 D1 hua hC) | (go_at_call 30; refine (HER.out _).mono ?_; rintro e w2 ⟨ub, rfl, hub, _, hC2⟩; obtain ⟨A2, hB2', hz2⟩ := newCall hC2; have E0 := HD0.out.call hB2'; have E1 := HD1.out.call hB2'; have HA2 := Lib.hid (HA.out.below hB2' (Nat.le_refl _)); have HBb := Lib.hid hub; obtain ⟨b1, b2, rfl, _, _⟩ := hub.form; obtain ⟨n0, n1, _, _, hzn⟩ := E0.f2; have HE0 := Lib.hid E0; have HE1 := Lib.hid E1; have HAB := Lib.hid A2; have hB2 := hB1.trans (hB2'.mono (by omega)); clear E0 E1 A2 hub hC2 hB2') | (go_at_call 31; refine (HP.out _ (HM.out.below (hB2.alloc hB2.size _)) (HU.out.below (hB2.alloc hB2.size _) (Nat.le_refl _))).mono ?_; rintro e w3 ⟨rfl, hC3⟩; obtain ⟨Bb, hB3', hz3⟩ := newCall hC3; have F0 := HE0.out.call hB3'; have F1 := HE1.out.call hB3'; have FA := HAB.out.call hB3'; have HA3 := Lib.hid (HA2.out.below hB3' (Nat.le_refl _)); have HB3 := Lib.hid (HBb.out.below hB3' (Nat.le_refl _)); obtain ⟨m0, m1, _, _, hzm⟩ := F0.f2; have HF0 := Lib.hid F0; have HF1 := Lib.hid F1; have HFA := Lib.hid FA; have HFBb := Lib.hid Bb; have hB3 := hB2.trans (hB3'.mono hB2.size); clear F0 F1 FA Bb hC3 hB3') | (go_at_call 32; refine (HPR.out _ (HU.out.below hB3 (Nat.le_refl _))).mono ?_; rintro e w4 ⟨rfl, hC4⟩; have G0 := HF0.out.call hC4; have G1 := HF1.out.call hC4; have GA := HFA.out.call hC4; have GB := HFBb.out.call hC4; have HA4 := Lib.hid (HA3.out.below hC4 (Nat.le_refl _)); have HB4 := Lib.hid (HB3.out.below hC4 (Nat.le_refl _)); obtain ⟨i0, i1, _, _, _⟩ := G0.f2; obtain ⟨j0, j1, _, _, _⟩ := G1.f2; obtain ⟨k0, k1, _, _, _⟩ := GA.f2; obtain ⟨l0, l1, _, _, _⟩ := GB.f2; have hB4 := hB3.trans (hC4.mono hB3.size); clear G0 G1 GA GB hC4))
    have cS := fun d os => Calls.regrown_of (sameE_c P _ eF P _ eF (grow (redrawn w4 d) os) (HA4.out.below (below_regrown w4 d os) (Nat.le_refl _)) (HB4.out.below (below_regrown w4 d os) (Nat.le_refl _)))
    simp only [evEq_self] at cS
    have cI := fun d os => Calls.regrown_of (is_c N (.slice ao F.length cap) F M (.slice bo G.length cap') G (grow (redrawn w4 d) os) ((HU.out.below hB4 (Nat.le_refl _)).below (below_regrown w4 d os) (Nat.le_refl _)) ((HV.out.below hB4 (Nat.le_refl _)).below (below_regrown w4 d os) (Nat.le_refl _)) (fun p hp => (HFB.out p hp).1) (fun p hp => (HGB.out p hp).1))
    have cJ := fun d os => Calls.regrown_of (isR_c N (.slice ao F.length cap) F M (.slice bo G.length cap') G (grow (redrawn w4 d) os) ((HU.out.below hB4 (Nat.le_refl _)).below (below_regrown w4 d os) (Nat.le_refl _)) ((HV.out.below hB4 (Nat.le_refl _)).below (below_regrown w4 d os) (Nat.le_refl _)) (fun p hp => (HFB.out p hp).1) (fun p hp => (HGB.out p hp).1))
    have cW := fun d os => Calls.regrown_of (HW.out (grow (redrawn w4 d) os) ((HM.out.below hB4).below (below_regrown w4 d os)))
    obtain ⟨q, hq⟩ : ∃ q, q = isS (us N) F (us M) G := ⟨_, rfl⟩
    rw [← hq] at cI cJ
    clear hq
    have i0' := cell_regrown i0
    have i1' := cell_regrown i1
    have j0' := cell_regrown j0
    have j1' := cell_regrown j1
    have k0' := cell_regrown k0
    have k1' := cell_regrown k1
    have l0' := cell_regrown l0
    have l1' := cell_regrown l1
    cases q
    all_goals
      refine wp_region_quiet_below (by kernel_rfl) (by kernel_rfl) ?_
      repeat (first | go_big_quiet_step (first | with_reducible exact cS _ _ | with_reducible exact cI _ _ | with_reducible exact cJ _ _ | with_reducible exact cW _ _) | quiet_step (first | with_reducible exact cS _ _ | with_reducible exact cI _ _ | with_reducible exact cJ _ _ | with_reducible exact cW _ _))
      refine wpQuiet_nil ?_
      intro wq hw'
      have hBq := regrown_below hw'
      clear hw' cS cI cJ cW i0' i1' j0' j1' k0' k1' l0' l1'
      go_wp2
      go_ret
      exact ⟨rfl, hB4.trans (hBq.mono hB4.size)⟩
  all_goals
    go_enter Tryd.func8, Tryd.ntmps8
    go_wp2_with (go_at_call 15; refine (HW.out _ (HM.out.below ((hR0.alloc (Nat.le_refl _) _).alloc (by rw [World.size_alloc]; omega) _))).mono ?_; rintro e w5 ⟨rfl, hC5⟩; obtain ⟨_, _, hB5, _⟩ := twoCall hC5)
    go_ret
    exact ⟨rfl, hB5⟩

end Go.Proofs.YteiafgoigfehgaaDoor
