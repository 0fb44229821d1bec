/-
  The law AddrOnce: the walk.
-/
import Derived.Test.YtjpmfcipjaeemaaDoorAbd
namespace Go.Proofs.YtjpmfcipjaeemaaDoor
set_option linter.unusedSimpArgs false
set_option linter.unusedVariables false
open Go.RowKit

set_option maxRecDepth 100000 in
set_option maxHeartbeats 12800000 in
theorem addrOnce_walk (s : ByteArray) (hs : s.size ≤ 1048576) (w : World) (hm : Ml w) :
    Calls Tryd.prog 5 #[.string s] w fun e w' => e = .returned (.bool true) ∧ Below w.heap.size w w' := by
  have HM := Lib.hid hm
  have HA := Lib.hid (fun wx hx => awake_c wx hx)
  have HP := Lib.hid (fun wx hx => parseA_c s (by omega) wx hx)
  unfold AdrPost at HP
  have hok := parseA_ok (us s)
  obtain ⟨r, hr⟩ : ∃ r, r = parseA (us s) := ⟨_, rfl⟩
  rw [← hr] at HP hok
  clear hr hm hs
  obtain ⟨⟨d, ⟨sc, ur, ho, n, F, G⟩, P⟩, c⟩ := r
  dsimp only at HP hok
  have hZ : Below w.heap.size w w := Below.refl _ _
  by_cases hc : c = 0
  case neg =>
    have h0 : (⟨d, ⟨sc, ur, ho, n, F, G⟩, P⟩ : Adr) = ⟨[], ⟨[], [], [], 0, [], []⟩, []⟩ := hok.2 hc
    cases h0
    have t0 : (c != 0) = true := by simpa using hc
    unfold sv bs at HP
    clear hok hc
    go_enter Tryd.func5, Tryd.ntmps5
    go_upto_region 2 with (go_at_call 14; refine (HP.out _ HM.out).mono ?_; rintro e x1 ⟨u1, u2, u3, rfl, k1, k2, k3, _, _, _, hB⟩; obtain ⟨a1, ac1, rfl, _, _⟩ := k1.form; obtain ⟨a2, ac2, rfl, _, _⟩ := k2.form; obtain ⟨a3, ac3, rfl, _, _⟩ := k3.form; replace k1 : RPrms x1 (.slice a1 (0) ac1) ([]) := k1; replace k2 : RPrms x1 (.slice a2 (0) ac2) ([]) := k2; replace k3 : RPrms x1 (.slice a3 (0) ac3) ([]) := k3)
    have hW : Below w.heap.size w (x1.alloc (.cells #[.string ⟨#[]⟩, .string ⟨#[]⟩, .string ⟨#[]⟩, .string ⟨#[]⟩, .int .i64 0, .slice a1 0 ac1, .slice a2 0 ac2, .slice a3 0 ac3] 39)) := hB.alloc hB.size _
    have ba0 := Blk.new x1 39 #[.string ⟨#[]⟩, .string ⟨#[]⟩, .string ⟨#[]⟩, .string ⟨#[]⟩, .int .i64 0, .slice a1 0 ac1, .slice a2 0 ac2, .slice a3 0 ac3]
    have sz1 : w.heap.size ≤ x1.heap.size := hB.size
    have ak1 := Lib.hid (k1.below ((Below.refl x1.heap.size x1).alloc (Nat.le_refl _) (.cells #[.string ⟨#[]⟩, .string ⟨#[]⟩, .string ⟨#[]⟩, .string ⟨#[]⟩, .int .i64 0, .slice a1 0 ac1, .slice a2 0 ac2, .slice a3 0 ac3] 39)) (Nat.le_refl _))
    have ak2 := Lib.hid (k2.below ((Below.refl x1.heap.size x1).alloc (Nat.le_refl _) (.cells #[.string ⟨#[]⟩, .string ⟨#[]⟩, .string ⟨#[]⟩, .string ⟨#[]⟩, .int .i64 0, .slice a1 0 ac1, .slice a2 0 ac2, .slice a3 0 ac3] 39)) (Nat.le_refl _))
    have ak3 := Lib.hid (k3.below ((Below.refl x1.heap.size x1).alloc (Nat.le_refl _) (.cells #[.string ⟨#[]⟩, .string ⟨#[]⟩, .string ⟨#[]⟩, .string ⟨#[]⟩, .int .i64 0, .slice a1 0 ac1, .slice a2 0 ac2, .slice a3 0 ac3] 39)) (Nat.le_refl _))
    obtain ⟨w1, hw1⟩ : ∃ x, x = x1.alloc (.cells #[.string ⟨#[]⟩, .string ⟨#[]⟩, .string ⟨#[]⟩, .string ⟨#[]⟩, .int .i64 0, .slice a1 0 ac1, .slice a2 0 ac2, .slice a3 0 ac3] 39) := ⟨_, rfl⟩
    rw [← hw1]
    rw [← hw1] at hW ba0 ak1 ak2 ak3
    replace hZ := hZ.trans (hW.mono hZ.size)
    clear hW k1 k2 k3 hB hw1
    obtain ⟨p0, p1, p2, p3, p4, p5, p6, p7, _, _, _, _, _, _, _, _, _⟩ := blk_h8 ba0
    go_wp2_with (go_at_call 7; refine (HA.out _ (HM.out.below hZ)).mono ?_; rintro e wz ⟨rfl, hCz⟩)
    go_ret
    exact ⟨rfl, hZ.trans (hCz.mono hZ.size)⟩
  subst hc
  have hck := hok.1 rfl
  obtain ⟨b1, b2, b3, b4, b5, b6, b7, b8, b9⟩ := check_bdA _ _ _ _ _ _ _ _ hck
  have htl := textA_le _ hck
  have hpb := parseA_text _ hck
  have hpr := printA_yes _ hck
  obtain ⟨D, hD⟩ : ∃ x, x = bs d := ⟨_, rfl⟩
  have uD : us D = d := by rw [hD, us_bs]
  have sD : D.size ≤ 64 := by rw [hD, size_bs]; omega
  obtain ⟨S, hS⟩ : ∃ x, x = bs sc := ⟨_, rfl⟩
  have uS : us S = sc := by rw [hS, us_bs]
  have sS : S.size ≤ 64 := by rw [hS, size_bs]; omega
  obtain ⟨U, hU⟩ : ∃ x, x = bs ur := ⟨_, rfl⟩
  have uU : us U = ur := by rw [hU, us_bs]
  have sU : U.size ≤ 64 := by rw [hU, size_bs]; omega
  obtain ⟨H, hH⟩ : ∃ x, x = bs ho := ⟨_, rfl⟩
  have uH : us H = ho := by rw [hH, us_bs]
  have sH : H.size ≤ 64 := by rw [hH, size_bs]; omega
  have HPr := Lib.hid (fun wx u1 u2 u3 hx h1 h2 h3 => printA_c D S U H n u1 u2 u3 F G P (by omega) (by omega) (by omega) (by omega) (by omega) wx hx h1 h2 h3 (fun p hp => by have := b7 p hp; omega) (fun p hp => by have := b8 p hp; omega) (fun p hp => by have := b9 p hp; omega))
  rw [uD, uS, uU, uH, hpr] at HPr
  dsimp only at HPr
  obtain ⟨TX, hTX⟩ : ∃ TX, TX = bs (textA ⟨d, ⟨sc, ur, ho, n, F, G⟩, P⟩) := ⟨_, rfl⟩
  have uT : us TX = textA ⟨d, ⟨sc, ur, ho, n, F, G⟩, P⟩ := by rw [hTX, us_bs]
  rw [← hTX] at HPr
  have HQ := Lib.hid (fun wx hx => parseA_c TX (by rw [hTX, size_bs]; omega) wx hx)
  unfold AdrPost at HQ
  rw [uT, hpb] at HQ
  dsimp only at HQ
  unfold sv at HP HQ
  rw [← hD, ← hS, ← hU, ← hH] at HP HQ
  have HS := Lib.hid (fun wx u1 u2 u3 v1 v2 v3 h1 h2 h3 h4 h5 h6 => same5_yes D S U H n u1 u2 u3 v1 v2 v3 F G P wx h1 h2 h3 h4 h5 h6)
  clear hok hck b1 b2 b3 b4 b5 b6 b7 b8 b9 htl hpb hpr hTX uT hD hS hU hH uD uS uU uH sD sS sU sH
  go_enter Tryd.func5, Tryd.ntmps5
  go_upto_region 4 with (go_at_call 14; refine (HP.out _ HM.out).mono ?_; rintro e x1 ⟨u1, u2, u3, rfl, k1, k2, k3, _, _, _, hB⟩; obtain ⟨a1, ac1, rfl, _, _⟩ := k1.form; obtain ⟨a2, ac2, rfl, _, _⟩ := k2.form; obtain ⟨a3, ac3, rfl, _, _⟩ := k3.form; replace k1 : RPrms x1 (.slice a1 (F.length) ac1) (F) := k1; replace k2 : RPrms x1 (.slice a2 (G.length) ac2) (G) := k2; replace k3 : RPrms x1 (.slice a3 (P.length) ac3) (P) := k3)
  have hW : Below w.heap.size w (x1.alloc (.cells #[.string D, .string S, .string U, .string H, .int .i64 n, .slice a1 F.length ac1, .slice a2 G.length ac2, .slice a3 P.length ac3] 39)) := hB.alloc hB.size _
  have ba0 := Blk.new x1 39 #[.string D, .string S, .string U, .string H, .int .i64 n, .slice a1 F.length ac1, .slice a2 G.length ac2, .slice a3 P.length ac3]
  have sz1 : w.heap.size ≤ x1.heap.size := hB.size
  have ak1 := Lib.hid (k1.below ((Below.refl x1.heap.size x1).alloc (Nat.le_refl _) (.cells #[.string D, .string S, .string U, .string H, .int .i64 n, .slice a1 F.length ac1, .slice a2 G.length ac2, .slice a3 P.length ac3] 39)) (Nat.le_refl _))
  have ak2 := Lib.hid (k2.below ((Below.refl x1.heap.size x1).alloc (Nat.le_refl _) (.cells #[.string D, .string S, .string U, .string H, .int .i64 n, .slice a1 F.length ac1, .slice a2 G.length ac2, .slice a3 P.length ac3] 39)) (Nat.le_refl _))
  have ak3 := Lib.hid (k3.below ((Below.refl x1.heap.size x1).alloc (Nat.le_refl _) (.cells #[.string D, .string S, .string U, .string H, .int .i64 n, .slice a1 F.length ac1, .slice a2 G.length ac2, .slice a3 P.length ac3] 39)) (Nat.le_refl _))
  obtain ⟨w1, hw1⟩ : ∃ x, x = x1.alloc (.cells #[.string D, .string S, .string U, .string H, .int .i64 n, .slice a1 F.length ac1, .slice a2 G.length ac2, .slice a3 P.length ac3] 39) := ⟨_, rfl⟩
  rw [← hw1]
  rw [← hw1] at hW ba0 ak1 ak2 ak3
  replace hZ := hZ.trans (hW.mono hZ.size)
  clear hW k1 k2 k3 hB hw1
  obtain ⟨p0, p1, p2, p3, p4, p5, p6, p7, _, _, _, _, _, _, _, _, _⟩ := blk_h8 ba0
  go_upto_region 5 with (go_at_call 13; refine (HPr.out _ _ _ _ (HM.out.below hZ) ak1.out ak2.out ak3.out).mono ?_; rintro e y1 ⟨rfl, hC⟩; replace hZ := hZ.trans (hC.mono hZ.size); replace ba0 := ba0.call hC; replace ak1 := Lib.hid (ak1.out.below hC (Nat.le_refl _)); replace ak2 := Lib.hid (ak2.out.below hC (Nat.le_refl _)); replace ak3 := Lib.hid (ak3.out.below hC (Nat.le_refl _)); clear hC)
  clear p0 p1 p2 p3 p4 p5 p6 p7
  go_upto_region 6 with (go_at_call 14; refine (HQ.out _ (HM.out.below hZ)).mono ?_; rintro e x2 ⟨u1, u2, u3, rfl, k1, k2, k3, _, _, _, hB⟩; obtain ⟨b1, bc1, rfl, _, _⟩ := k1.form; obtain ⟨b2, bc2, rfl, _, _⟩ := k2.form; obtain ⟨b3, bc3, rfl, _, _⟩ := k3.form; replace k1 : RPrms x2 (.slice b1 (F.length) bc1) (F) := k1; replace k2 : RPrms x2 (.slice b2 (G.length) bc2) (G) := k2; replace k3 : RPrms x2 (.slice b3 (P.length) bc3) (P) := k3)
  have hW : Below y1.heap.size y1 (x2.alloc (.cells #[.string D, .string S, .string U, .string H, .int .i64 n, .slice b1 F.length bc1, .slice b2 G.length bc2, .slice b3 P.length bc3] 39)) := hB.alloc hB.size _
  have bb0 := Blk.new x2 39 #[.string D, .string S, .string U, .string H, .int .i64 n, .slice b1 F.length bc1, .slice b2 G.length bc2, .slice b3 P.length bc3]
  have sz2 : y1.heap.size ≤ x2.heap.size := hB.size
  have bk1 := Lib.hid (k1.below ((Below.refl x2.heap.size x2).alloc (Nat.le_refl _) (.cells #[.string D, .string S, .string U, .string H, .int .i64 n, .slice b1 F.length bc1, .slice b2 G.length bc2, .slice b3 P.length bc3] 39)) (Nat.le_refl _))
  have bk2 := Lib.hid (k2.below ((Below.refl x2.heap.size x2).alloc (Nat.le_refl _) (.cells #[.string D, .string S, .string U, .string H, .int .i64 n, .slice b1 F.length bc1, .slice b2 G.length bc2, .slice b3 P.length bc3] 39)) (Nat.le_refl _))
  have bk3 := Lib.hid (k3.below ((Below.refl x2.heap.size x2).alloc (Nat.le_refl _) (.cells #[.string D, .string S, .string U, .string H, .int .i64 n, .slice b1 F.length bc1, .slice b2 G.length bc2, .slice b3 P.length bc3] 39)) (Nat.le_refl _))
  obtain ⟨w2, hw2⟩ : ∃ x, x = x2.alloc (.cells #[.string D, .string S, .string U, .string H, .int .i64 n, .slice b1 F.length bc1, .slice b2 G.length bc2, .slice b3 P.length bc3] 39) := ⟨_, rfl⟩
  rw [← hw2]
  rw [← hw2] at hW bb0 bk1 bk2 bk3
  replace hZ := hZ.trans (hW.mono hZ.size)
  replace ba0 := ba0.call hW
  replace ak1 := Lib.hid (ak1.out.below hW (Nat.le_refl _))
  replace ak2 := Lib.hid (ak2.out.below hW (Nat.le_refl _))
  replace ak3 := Lib.hid (ak3.out.below hW (Nat.le_refl _))
  clear hW k1 k2 k3 hB hw2
  obtain ⟨q0, q1, q2, q3, q4, q5, q6, q7, _, _, _, _, _, _, _, _, _⟩ := blk_h8 bb0
  go_upto_region 7 with (go_at_call 13; refine (HPr.out _ _ _ _ (HM.out.below hZ) bk1.out bk2.out bk3.out).mono ?_; rintro e y2 ⟨rfl, hC⟩; replace hZ := hZ.trans (hC.mono hZ.size); replace bb0 := bb0.call hC; replace ba0 := ba0.call hC; replace bk1 := Lib.hid (bk1.out.below hC (Nat.le_refl _)); replace bk2 := Lib.hid (bk2.out.below hC (Nat.le_refl _)); replace bk3 := Lib.hid (bk3.out.below hC (Nat.le_refl _)); replace ak1 := Lib.hid (ak1.out.below hC (Nat.le_refl _)); replace ak2 := Lib.hid (ak2.out.below hC (Nat.le_refl _)); replace ak3 := Lib.hid (ak3.out.below hC (Nat.le_refl _)); clear hC)
  clear q0 q1 q2 q3 q4 q5 q6 q7
  obtain ⟨p0, p1, p2, p3, p4, p5, p6, p7, _, _, _, _, _, _, _, _, _⟩ := blk_h8 ba0
  obtain ⟨q0, q1, q2, q3, q4, q5, q6, q7, _, _, _, _, _, _, _, _, _⟩ := blk_h8 bb0
  go_wp2_with (first | (go_at_call 15; refine (HS.out _ _ _ _ _ _ _ ak1.out ak2.out ak3.out bk1.out bk2.out bk3.out).mono ?_; rintro e y3 ⟨rfl, hC⟩; replace hZ := hZ.trans (hC.mono hZ.size)) | (go_at_call 7; refine (HA.out _ (HM.out.below hZ)).mono ?_; rintro e wz ⟨rfl, hCz⟩; replace hZ := hZ.trans (hCz.mono hZ.size)))
  go_ret
  exact ⟨rfl, hZ⟩

end Go.Proofs.YtjpmfcipjaeemaaDoor
