/-
  The law AddrBack: the walk.
-/
import Derived.Test.YtjpmfcipjaeemaaDoorAbd
namespace Go.Proofs.YtjpmfcipjaeemaaDoor
set_option linter.unusedSimpArgs false
set_option linter.unusedVariables false
open Go.RowKit

set_option maxRecDepth 100000 in
set_option maxHeartbeats 12800000 in
theorem addrBack_walk (D S U H : ByteArray) (n : Int) (n0 : -9223372036854775808 ≤ n) (n1 : n ≤ 9223372036854775807) (v1 v2 v3 : Value) (F G P : List Prm) (sD : D.size ≤ 1048576) (sS : S.size ≤ 1048576) (sU : U.size ≤ 1048576) (sH : H.size ≤ 1048576) (w : World) (hm : Ml w)
    (h1 : RPrms w v1 F) (h2 : RPrms w v2 G) (h3 : RPrms w v3 P) (b1 : ∀ p ∈ F, p.name.length ≤ 1048576 ∧ p.value.length ≤ 1048576) (b2 : ∀ p ∈ G, p.name.length ≤ 1048576 ∧ p.value.length ≤ 1048576) (b3 : ∀ p ∈ P, p.name.length ≤ 1048576 ∧ p.value.length ≤ 1048576) :
    Calls Tryd.prog 4 #[.agg #[.string D, .string S, .string U, .string H, .int .i64 n, v1, v2, v3]] w fun e w' => e = .returned (.bool true) ∧ Below w.heap.size w w' := by
  have HM := Lib.hid hm
  have HA := Lib.hid (fun wx hx => awake_c wx hx)
  obtain ⟨a1, ac1, rfl, m1, _⟩ := h1.form
  obtain ⟨a2, ac2, rfl, m2, _⟩ := h2.form
  obtain ⟨a3, ac3, rfl, m3, _⟩ := h3.form
  unfold maxLen at m1 m2 m3
  have HPr := Lib.hid (fun wx u1 u2 u3 hx h1 h2 h3 => printA_c D S U H n u1 u2 u3 F G P (by omega) (by omega) (by omega) n0 n1 wx hx h1 h2 h3 (fun p hp => by have := b1 p hp; omega) (fun p hp => by have := b2 p hp; omega) (fun p hp => by have := b3 p hp; omega))
  have ak1 := Lib.hid h1
  have ak2 := Lib.hid h2
  have ak3 := Lib.hid h3
  clear h1 h2 h3 b1 b2 b3 n0 n1 hm
  have hZ : Below w.heap.size w w := Below.refl _ _
  have hA : Below w.heap.size w (w.alloc (.cells #[.string D, .string S, .string U, .string H, .int .i64 n, .slice a1 F.length ac1, .slice a2 G.length ac2, .slice a3 P.length ac3] 39)) := hZ.alloc (Nat.le_refl _) _
  by_cases l1 : 100 < P.length
  · go_enter Tryd.func4, Tryd.ntmps4
    go_wp2_with (go_at_call 7; refine (HA.out _ (HM.out.below hA)).mono ?_; rintro e wz ⟨rfl, hCz⟩)
    go_ret
    exact ⟨rfl, hA.trans (hCz.mono hA.size)⟩
  by_cases l2 : 100 < F.length
  · go_enter Tryd.func4, Tryd.ntmps4
    go_wp2_with (go_at_call 7; refine (HA.out _ (HM.out.below hA)).mono ?_; rintro e wz ⟨rfl, hCz⟩)
    go_ret
    exact ⟨rfl, hA.trans (hCz.mono hA.size)⟩
  by_cases l3 : 100 < G.length
  · go_enter Tryd.func4, Tryd.ntmps4
    go_wp2_with (go_at_call 7; refine (HA.out _ (HM.out.below hA)).mono ?_; rintro e wz ⟨rfl, hCz⟩)
    go_ret
    exact ⟨rfl, hA.trans (hCz.mono hA.size)⟩
  by_cases hck : checkA ⟨us D, ⟨us S, us U, us H, n, F, G⟩, P⟩ = 0
  case neg =>
    have hpr : printA ⟨us D, ⟨us S, us U, us H, n, F, G⟩, P⟩ = ([], checkA ⟨us D, ⟨us S, us U, us H, n, F, G⟩, P⟩) := by unfold printA; rw [if_neg hck]
    rw [hpr] at HPr
    dsimp only at HPr
    unfold bs at HPr
    obtain ⟨c, hc⟩ : ∃ c, c = checkA ⟨us D, ⟨us S, us U, us H, n, F, G⟩, P⟩ := ⟨_, rfl⟩
    rw [← hc] at HPr hck
    have t0 : (c != 0) = true := by simpa using hck
    clear hc hpr hck
    go_enter Tryd.func4, Tryd.ntmps4
    go_upto_region 3 with (go_at_call 7; exfalso; omega)
    have ba0 := Blk.new w 39 #[.string D, .string S, .string U, .string H, .int .i64 n, .slice a1 F.length ac1, .slice a2 G.length ac2, .slice a3 P.length ac3]
    replace ak1 := Lib.hid (ak1.out.below hA (Nat.le_refl _))
    replace ak2 := Lib.hid (ak2.out.below hA (Nat.le_refl _))
    replace ak3 := Lib.hid (ak3.out.below hA (Nat.le_refl _))
    obtain ⟨w1, hw1⟩ : ∃ x, x = w.alloc (.cells #[.string D, .string S, .string U, .string H, .int .i64 n, .slice a1 F.length ac1, .slice a2 G.length ac2, .slice a3 P.length ac3] 39) := ⟨_, rfl⟩
    rw [← hw1]
    rw [← hw1] at hA ba0 ak1 ak2 ak3
    replace hZ := hA
    clear hw1 hA
    obtain ⟨p0, p1, p2, p3, p4, p5, p6, p7, _, _, _, _, _, _, _, _, _⟩ := blk_h8 ba0
    go_wp2_with (first | (go_at_call 13; refine (HPr.out _ _ _ _ (HM.out.below hZ) ak1.out ak2.out ak3.out).mono ?_; rintro e y1 ⟨rfl, hC⟩; replace hZ := hZ.trans (hC.mono hZ.size); replace ba0 := ba0.call hC; replace ak1 := Lib.hid (ak1.out.below hC (Nat.le_refl _)); replace ak2 := Lib.hid (ak2.out.below hC (Nat.le_refl _)); replace ak3 := Lib.hid (ak3.out.below hC (Nat.le_refl _)); clear hC) | (go_at_call 7; refine (HA.out _ (HM.out.below hZ)).mono ?_; rintro e wz ⟨rfl, hCz⟩; replace hZ := hZ.trans (hCz.mono hZ.size)))
    go_ret
    exact ⟨rfl, hZ⟩
  have htl := textA_le _ hck
  have hpb := parseA_text _ hck
  have hpr := printA_yes _ hck
  rw [hpr] at HPr
  dsimp only at HPr
  obtain ⟨TX, hTX⟩ : ∃ TX, TX = bs (textA ⟨us D, ⟨us S, us U, us H, n, F, G⟩, P⟩) := ⟨_, rfl⟩
  have uT : us TX = textA ⟨us D, ⟨us S, us U, us H, n, F, G⟩, P⟩ := by rw [hTX, us_bs]
  rw [← hTX] at HPr
  have HQ := Lib.hid (fun wx hx => parseA_c TX (by rw [hTX, size_bs]; omega) wx hx)
  unfold AdrPost at HQ
  rw [uT, hpb] at HQ
  dsimp only at HQ
  unfold sv at HQ
  rw [bs_us, bs_us, bs_us, bs_us] at HQ
  have HS := Lib.hid (fun wx u1 u2 u3 v1 v2 v3 h1 h2 h3 h4 h5 h6 => same5_yes D S U H n u1 u2 u3 v1 v2 v3 F G P wx h1 h2 h3 h4 h5 h6)
  clear htl hpb hpr hTX uT hck
  go_enter Tryd.func4, Tryd.ntmps4
  go_upto_region 3 with (go_at_call 7; exfalso; omega)
  have ba0 := Blk.new w 39 #[.string D, .string S, .string U, .string H, .int .i64 n, .slice a1 F.length ac1, .slice a2 G.length ac2, .slice a3 P.length ac3]
  replace ak1 := Lib.hid (ak1.out.below hA (Nat.le_refl _))
  replace ak2 := Lib.hid (ak2.out.below hA (Nat.le_refl _))
  replace ak3 := Lib.hid (ak3.out.below hA (Nat.le_refl _))
  obtain ⟨w1, hw1⟩ : ∃ x, x = w.alloc (.cells #[.string D, .string S, .string U, .string H, .int .i64 n, .slice a1 F.length ac1, .slice a2 G.length ac2, .slice a3 P.length ac3] 39) := ⟨_, rfl⟩
  rw [← hw1]
  rw [← hw1] at hA ba0 ak1 ak2 ak3
  replace hZ := hA
  clear hw1 hA
  obtain ⟨p0, p1, p2, p3, p4, p5, p6, p7, _, _, _, _, _, _, _, _, _⟩ := blk_h8 ba0
  go_upto_region 4 with (go_at_call 13; refine (HPr.out _ _ _ _ (HM.out.below hZ) ak1.out ak2.out ak3.out).mono ?_; rintro e y1 ⟨rfl, hC⟩; replace hZ := hZ.trans (hC.mono hZ.size); replace ba0 := ba0.call hC; replace ak1 := Lib.hid (ak1.out.below hC (Nat.le_refl _)); replace ak2 := Lib.hid (ak2.out.below hC (Nat.le_refl _)); replace ak3 := Lib.hid (ak3.out.below hC (Nat.le_refl _)); clear hC)
  clear p0 p1 p2 p3 p4 p5 p6 p7
  go_upto_region 7 with (go_at_call 14; refine (HQ.out _ (HM.out.below hZ)).mono ?_; rintro e x2 ⟨u1, u2, u3, rfl, k1, k2, k3, _, _, _, hB⟩; obtain ⟨b1, bc1, rfl, _, _⟩ := k1.form; obtain ⟨b2, bc2, rfl, _, _⟩ := k2.form; obtain ⟨b3, bc3, rfl, _, _⟩ := k3.form; replace k1 : RPrms x2 (.slice b1 (F.length) bc1) (F) := k1; replace k2 : RPrms x2 (.slice b2 (G.length) bc2) (G) := k2; replace k3 : RPrms x2 (.slice b3 (P.length) bc3) (P) := k3)
  have hW : Below y1.heap.size y1 (x2.alloc (.cells #[.string D, .string S, .string U, .string H, .int .i64 n, .slice b1 F.length bc1, .slice b2 G.length bc2, .slice b3 P.length bc3] 39)) := hB.alloc hB.size _
  have bb0 := Blk.new x2 39 #[.string D, .string S, .string U, .string H, .int .i64 n, .slice b1 F.length bc1, .slice b2 G.length bc2, .slice b3 P.length bc3]
  have sz2 : y1.heap.size ≤ x2.heap.size := hB.size
  have bk1 := Lib.hid (k1.below ((Below.refl x2.heap.size x2).alloc (Nat.le_refl _) (.cells #[.string D, .string S, .string U, .string H, .int .i64 n, .slice b1 F.length bc1, .slice b2 G.length bc2, .slice b3 P.length bc3] 39)) (Nat.le_refl _))
  have bk2 := Lib.hid (k2.below ((Below.refl x2.heap.size x2).alloc (Nat.le_refl _) (.cells #[.string D, .string S, .string U, .string H, .int .i64 n, .slice b1 F.length bc1, .slice b2 G.length bc2, .slice b3 P.length bc3] 39)) (Nat.le_refl _))
  have bk3 := Lib.hid (k3.below ((Below.refl x2.heap.size x2).alloc (Nat.le_refl _) (.cells #[.string D, .string S, .string U, .string H, .int .i64 n, .slice b1 F.length bc1, .slice b2 G.length bc2, .slice b3 P.length bc3] 39)) (Nat.le_refl _))
  obtain ⟨w2, hw2⟩ : ∃ x, x = x2.alloc (.cells #[.string D, .string S, .string U, .string H, .int .i64 n, .slice b1 F.length bc1, .slice b2 G.length bc2, .slice b3 P.length bc3] 39) := ⟨_, rfl⟩
  rw [← hw2]
  rw [← hw2] at hW bb0 bk1 bk2 bk3
  replace hZ := hZ.trans (hW.mono hZ.size)
  replace ba0 := ba0.call hW
  replace ak1 := Lib.hid (ak1.out.below hW (Nat.le_refl _))
  replace ak2 := Lib.hid (ak2.out.below hW (Nat.le_refl _))
  replace ak3 := Lib.hid (ak3.out.below hW (Nat.le_refl _))
  clear hW k1 k2 k3 hB hw2
  obtain ⟨p0, p1, p2, p3, p4, p5, p6, p7, _, _, _, _, _, _, _, _, _⟩ := blk_h8 ba0
  obtain ⟨q0, q1, q2, q3, q4, q5, q6, q7, _, _, _, _, _, _, _, _, _⟩ := blk_h8 bb0
  go_wp2_with (first | (go_at_call 15; refine (HS.out _ _ _ _ _ _ _ ak1.out ak2.out ak3.out bk1.out bk2.out bk3.out).mono ?_; rintro e y3 ⟨rfl, hC⟩; replace hZ := hZ.trans (hC.mono hZ.size)) | (go_at_call 7; refine (HA.out _ (HM.out.below hZ)).mono ?_; rintro e wz ⟨rfl, hCz⟩; replace hZ := hZ.trans (hCz.mono hZ.size)))
  go_ret
  exact ⟨rfl, hZ⟩

end Go.Proofs.YtjpmfcipjaeemaaDoor
