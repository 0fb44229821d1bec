/-
  The law AddrPrints: the walk.
-/
import Derived.Test.YtjpmfcipjaeemaaGreatDoorAbd
import Derived.Test.YtjpmfcipjaeemaaGreatDoorArk
namespace Go.Proofs.YtjpmfcipjaeemaaGreatDoor
set_option linter.unusedSimpArgs false
set_option linter.unusedVariables false
open Go.RowKit Go.Sort

set_option maxRecDepth 100000 in
set_option maxHeartbeats 12800000 in
theorem addrPrints_walk (D S U H : ByteArray) (n : Int) (n0 : -9223372036854775808 ≤ n) (n1 : n ≤ 9223372036854775807) (v1 v2 v3 : Value) (F G P : List Prm) (sD : D.size ≤ 1048576) (sS : S.size ≤ 1048576) (sU : U.size ≤ 1048576) (sH : H.size ≤ 1048576) (w : World) (hm : Ml w)
    (h1 : RPrms w v1 F) (h2 : RPrms w v2 G) (h3 : RPrms w v3 P) (b1 : ∀ p ∈ F, p.name.length ≤ 1048576 ∧ p.value.length ≤ 1048576) (b2 : ∀ p ∈ G, p.name.length ≤ 1048576 ∧ p.value.length ≤ 1048576) (b3 : ∀ p ∈ P, p.name.length ≤ 1048576 ∧ p.value.length ≤ 1048576) :
    Calls Tryz.prog 3 #[.agg #[.string D, .string S, .string U, .string H, .int .i64 n, v1, v2, v3]] w fun e w' => e = .returned (.bool true) ∧ Below w.heap.size w w' := by
  have HM := Lib.hid hm
  have HA := Lib.hid (fun wx hx => awake_c wx hx)
  obtain ⟨a1, ac1, rfl, m1, _⟩ := h1.form
  obtain ⟨a2, ac2, rfl, m2, _⟩ := h2.form
  obtain ⟨a3, ac3, rfl, m3, _⟩ := h3.form
  unfold maxLen at m1 m2 m3
  have B1 : ∀ p ∈ F, p.name.length ≤ 4294967280 ∧ p.value.length ≤ 4294967280 := fun p hp => by have := b1 p hp; omega
  have B2 : ∀ p ∈ G, p.name.length ≤ 4294967280 ∧ p.value.length ≤ 4294967280 := fun p hp => by have := b2 p hp; omega
  have B3 : ∀ p ∈ P, p.name.length ≤ 4294967280 ∧ p.value.length ≤ 4294967280 := fun p hp => by have := b3 p hp; omega
  have HPr := Lib.hid (fun wx u1 u2 u3 hx h1 h2 h3 => printA_c D S U H n u1 u2 u3 F G P (by omega) (by omega) (by omega) n0 n1 wx hx h1 h2 h3 B1 B2 B3)
  have HPq := Lib.hid (fun wx u1 u2 u3 h1 h2 h3 => printAR_c D S U H n u1 u2 u3 F G P (by omega) (by omega) (by omega) n0 n1 wx h1 h2 h3 B1 B2 B3)
  have HC := Lib.hid (fun wx u1 u2 u3 hx h1 h2 h3 => checkA_c D S U H n u1 u2 u3 F G P (by omega) (by omega) (by omega) wx hx h1 h2 h3 B1 B2 B3)
  have HCR := Lib.hid (fun wx u1 u2 u3 h1 h2 h3 => checkAR_c D S U H n u1 u2 u3 F G P (by omega) (by omega) (by omega) wx h1 h2 h3 B1 B2 B3)
  have HT := Lib.hid (fun wx h3 => tagA_c D S U H n (.slice a1 F.length ac1) (.slice a2 G.length ac2) (.slice a3 P.length ac3) F G P wx h3 (fun p hp => (B3 p hp).1) ⟨_, _, rfl⟩ ⟨_, _, rfl⟩)
  have HTR := Lib.hid (fun wx h3 => tagAR_c D S U H n (.slice a1 F.length ac1) (.slice a2 G.length ac2) (.slice a3 P.length ac3) F G P wx h3 (fun p hp => (B3 p hp).1) ⟨_, _, rfl⟩ ⟨_, _, rfl⟩)
  obtain ⟨r, hr⟩ : ∃ r, r = printA ⟨us D, ⟨us S, us U, us H, n, F, G⟩, P⟩ := ⟨_, rfl⟩
  rw [← hr] at HPr HPq
  obtain ⟨C, hC⟩ : ∃ C, C = checkA ⟨us D, ⟨us S, us U, us H, n, F, G⟩, P⟩ := ⟨_, rfl⟩
  rw [← hC] at HC HCR
  obtain ⟨V, hV⟩ : ∃ V, V = bs (value P nTag).1 := ⟨_, rfl⟩
  rw [← hV] at HT HTR
  obtain ⟨t, c⟩ := r
  dsimp only at HPr HPq
  obtain ⟨TX, hTX⟩ : ∃ TX, TX = bs t := ⟨_, rfl⟩
  rw [← hTX] at HPr HPq
  have ak1 := Lib.hid h1
  have ak2 := Lib.hid h2
  have ak3 := Lib.hid h3
  clear h1 h2 h3 b1 b2 b3 B1 B2 B3 n0 n1 hm hr hC hV hTX
  have hZ : Below w.heap.size w w := Below.refl _ _
  have hA : Below w.heap.size w (w.alloc (.cells #[.string D, .string S, .string U, .string H, .int .i64 n, .slice a1 F.length ac1, .slice a2 G.length ac2, .slice a3 P.length ac3] 26)) := hZ.alloc (Nat.le_refl _) _
  by_cases l1 : 100 < P.length
  · go_enter Tryz.func3, Tryz.ntmps3
    go_wp2_with (go_at_call 4; refine (HA.out _ (HM.out.below hA)).mono ?_; rintro e wz ⟨rfl, hCz⟩)
    go_ret
    exact ⟨rfl, hA.trans (hCz.mono hA.size)⟩
  by_cases l2 : 100 < F.length
  · go_enter Tryz.func3, Tryz.ntmps3
    go_wp2_with (go_at_call 4; refine (HA.out _ (HM.out.below hA)).mono ?_; rintro e wz ⟨rfl, hCz⟩)
    go_ret
    exact ⟨rfl, hA.trans (hCz.mono hA.size)⟩
  by_cases l3 : 100 < G.length
  · go_enter Tryz.func3, Tryz.ntmps3
    go_wp2_with (go_at_call 4; refine (HA.out _ (HM.out.below hA)).mono ?_; rintro e wz ⟨rfl, hCz⟩)
    go_ret
    exact ⟨rfl, hA.trans (hCz.mono hA.size)⟩
  go_enter Tryz.func3, Tryz.ntmps3
  go_upto_region 3 with (go_at_call 4; exfalso; omega)
  have ba0 := Blk.new w 26 #[.string D, .string S, .string U, .string H, .int .i64 n, .slice a1 F.length ac1, .slice a2 G.length ac2, .slice a3 P.length ac3]
  replace ak1 := Lib.hid (ak1.out.below hA (Nat.le_refl _))
  replace ak2 := Lib.hid (ak2.out.below hA (Nat.le_refl _))
  replace ak3 := Lib.hid (ak3.out.below hA (Nat.le_refl _))
  obtain ⟨w1, hw1⟩ : ∃ x, x = w.alloc (.cells #[.string D, .string S, .string U, .string H, .int .i64 n, .slice a1 F.length ac1, .slice a2 G.length ac2, .slice a3 P.length ac3] 26) := ⟨_, rfl⟩
  rw [← hw1]
  rw [← hw1] at hA ba0 ak1 ak2 ak3
  replace hZ := hA
  clear hw1 hA
  obtain ⟨p0, p1, p2, p3, p4, p5, p6, p7, _, _, _, _, _, _, _, _, _⟩ := blk_h8 ba0
  go_wp2_with (first | (go_at_call 5; refine (HPr.out _ _ _ _ (HM.out.below hZ) ak1.out ak2.out ak3.out).mono ?_; rintro e y1 ⟨rfl, hC⟩; replace hZ := hZ.trans (hC.mono hZ.size); replace ba0 := ba0.call hC; replace ak1 := Lib.hid (ak1.out.below hC (Nat.le_refl _)); replace ak2 := Lib.hid (ak2.out.below hC (Nat.le_refl _)); replace ak3 := Lib.hid (ak3.out.below hC (Nat.le_refl _)); clear hC p0 p1 p2 p3 p4 p5 p6 p7; obtain ⟨p0, p1, p2, p3, p4, p5, p6, p7, _, _, _, _, _, _, _, _, _⟩ := blk_h8 ba0) | (go_at_call 6; refine (HPq.out _ _ _ _ ak1.out ak2.out ak3.out).mono ?_; rintro e y2 ⟨rfl, hC⟩; replace hZ := hZ.trans (hC.mono hZ.size); replace ba0 := ba0.call hC; replace ak1 := Lib.hid (ak1.out.below hC (Nat.le_refl _)); replace ak2 := Lib.hid (ak2.out.below hC (Nat.le_refl _)); replace ak3 := Lib.hid (ak3.out.below hC (Nat.le_refl _)); clear hC p0 p1 p2 p3 p4 p5 p6 p7; obtain ⟨p0, p1, p2, p3, p4, p5, p6, p7, _, _, _, _, _, _, _, _, _⟩ := blk_h8 ba0))
  have c1 := fun d os => Calls.regrown_of (HC.out (grow (redrawn y2 d) os) _ _ _ ((HM.out.below hZ).below (below_regrown y2 d os)) (ak1.out.below (below_regrown y2 d os) (Nat.le_refl _)) (ak2.out.below (below_regrown y2 d os) (Nat.le_refl _)) (ak3.out.below (below_regrown y2 d os) (Nat.le_refl _)))
  have c2 := fun d os => Calls.regrown_of (HCR.out (grow (redrawn y2 d) os) _ _ _ (ak1.out.below (below_regrown y2 d os) (Nat.le_refl _)) (ak2.out.below (below_regrown y2 d os) (Nat.le_refl _)) (ak3.out.below (below_regrown y2 d os) (Nat.le_refl _)))
  have c3 := fun d os => Calls.regrown_of (HT.out (grow (redrawn y2 d) os) (ak3.out.below (below_regrown y2 d os) (Nat.le_refl _)))
  have c4 := fun d os => Calls.regrown_of (HTR.out (grow (redrawn y2 d) os) (ak3.out.below (below_regrown y2 d os) (Nat.le_refl _)))
  have c5 := fun d os => Calls.regrown_of (HA.out (grow (redrawn y2 d) os) ((HM.out.below hZ).below (below_regrown y2 d os)))
  replace p0 := cell_regrown p0
  replace p1 := cell_regrown p1
  replace p2 := cell_regrown p2
  replace p3 := cell_regrown p3
  replace p4 := cell_regrown p4
  replace p5 := cell_regrown p5
  replace p6 := cell_regrown p6
  replace p7 := cell_regrown p7
  refine wp_region_quiet_below (by kernel_rfl) (by kernel_rfl) ?_
  repeat (first | go_big_quiet_step (first | with_reducible exact c1 _ _ | with_reducible exact c2 _ _ | with_reducible exact c3 _ _ | with_reducible exact c4 _ _ | with_reducible exact c5 _ _) | quiet_step (first | with_reducible exact c1 _ _ | with_reducible exact c2 _ _ | with_reducible exact c3 _ _ | with_reducible exact c4 _ _ | with_reducible exact c5 _ _))
  refine wpQuiet_nil ?_
  intro wq hw'
  have hBq := regrownZ hw'
  clear hw' c1 c2 c3 c4 c5 p0 p1 p2 p3 p4 p5 p6 p7
  go_wp2
  go_ret
  exact ⟨rfl, hZ.trans (hBq.mono hZ.size)⟩

end Go.Proofs.YtjpmfcipjaeemaaGreatDoor
