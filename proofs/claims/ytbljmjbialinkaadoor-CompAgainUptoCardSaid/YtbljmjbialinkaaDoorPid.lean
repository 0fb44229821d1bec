/-
  same.Who, same.Host: whose a URI is.
-/
import Derived.Test.YtbljmjbialinkaaDoorXml
import Derived.Test.YtbljmjbialinkaaDoorWhl
import Derived.Test.YtbljmjbialinkaaDoorUpr
import Derived.Test.YtbljmjbialinkaaDoorUpa
namespace Go.Proofs.YtbljmjbialinkaaDoor
set_option linter.unusedSimpArgs false
set_option linter.unusedVariables false
open Go.RowKit Go.Sort

theorem toL (x : List UInt8) : (bs x).toList = x := by rw [toList_us, us_bs]
theorem us_neX (s : ByteArray) (h : s.size ≠ 0) : ¬ us s = [] := by
  intro e; exact h (by rw [← length_us, e]; rfl)
theorem us_kSip (s : ByteArray) : us ((⟨#[115, 105, 112, 58]⟩ : ByteArray) ++ s) = kSipC ++ us s := by rw [us_append]; rfl
theorem size_kSip (s : ByteArray) : ((⟨#[115, 105, 112, 58]⟩ : ByteArray) ++ s).size = 4 + s.size := by rw [ByteArray.size_append]; rfl

set_option maxRecDepth 100000 in
set_option maxHeartbeats 6400000 in
theorem sameWho_c (S U H : ByteArray) (n : Int) (u1 u2 : Value) (F G : List Prm) (hS : S.size ≤ 4294967280) (hH : H.size ≤ 4294967280) (hn0 : -9223372036854775808 ≤ n) (hn1 : n ≤ 9223372036854775807) (w : World) (hm : Ml w) (h1 : RPrms w u1 F) (h2 : RPrms w u2 G) (hb1 : ∀ p ∈ F, p.name.length ≤ 4294967280 ∧ p.value.length ≤ 4294967280) (hb2 : ∀ p ∈ G, p.name.length ≤ 4294967280 ∧ p.value.length ≤ 4294967280) :
    Calls Tryd.prog 21 #[.agg #[.string S, .string U, .string H, .int .i64 n, u1, u2]] w fun e w' => ∃ k : Int, e = .returned (.tuple #[.string (bs (whoS ⟨us S, us U, us H, n, F, G⟩).1), .int .i64 k]) ∧ (k == 0) = (whoS ⟨us S, us U, us H, n, F, G⟩).2 ∧ Below w.heap.size w w' := by
  have HU1 := Lib.hid h1
  have HU2 := Lib.hid h2
  have HM := Lib.hid hm
  obtain ⟨ao, ac, rfl, hm1, c1⟩ := h1.form
  obtain ⟨bo, bc, rfl, hm2, c2⟩ := h2.form
  have HCK := Lib.hid (fun wx hx h1 h2 => checkU_c S U H n (.slice ao F.length ac) (.slice bo G.length bc) F G hS hH wx hx h1 h2 hb1 hb2)
  have HPR := Lib.hid (fun wx hx => printU_c ⟨#[115, 105, 112]⟩ U H 0 (.slice none 0 0) (.slice none 0 0) [] [] (by decide) hH (by decide) (by decide) wx hx (.inl ⟨⟨_, _, rfl⟩, rfl⟩) (.inl ⟨⟨_, _, rfl⟩, rfl⟩) (fun p hp => by cases hp) (fun p hp => by cases hp))
  have hws : whoS ⟨us S, us U, us H, n, F, G⟩ = if checkU ⟨us S, us U, us H, n, F, G⟩ ≠ 0 ∨ us U = [] then ([], false) else (Lib.trimPrefix (printU ⟨us ⟨#[115, 105, 112]⟩, us U, us H, 0, [], []⟩).1 kSipC, (printU ⟨us ⟨#[115, 105, 112]⟩, us U, us H, 0, [], []⟩).2 == 0) := rfl
  obtain ⟨W, hW⟩ : ∃ x, x = whoS ⟨us S, us U, us H, n, F, G⟩ := ⟨_, rfl⟩
  rw [← hW] at hws ⊢
  obtain ⟨C, hC⟩ : ∃ C, C = checkU ⟨us S, us U, us H, n, F, G⟩ := ⟨_, rfl⟩
  rw [← hC] at hws HCK
  obtain ⟨PU, hPU⟩ : ∃ x, x = printU ⟨us ⟨#[115, 105, 112]⟩, us U, us H, 0, [], []⟩ := ⟨_, rfl⟩
  rw [← hPU] at hws HPR
  have HTP := Lib.hid (fun wx => trimPre_c (bs PU.1) wx)
  rw [us_bs] at HTP
  clear hW hC hPU c1 c2 h1 h2 hm1 hm2 hm
  have hB0 : Below w.heap.size w (w.alloc (.cells #[.string S, .string U, .string H, .int .i64 n, .slice ao F.length ac, .slice bo G.length bc] 58)) := (Below.refl _ _).alloc (Nat.le_refl _) _
  have bm0 := Blk.new w 58 #[.string S, .string U, .string H, .int .i64 n, .slice ao F.length ac, .slice bo G.length bc]
  obtain ⟨w0, hw0⟩ : ∃ w0, w0 = w.alloc (.cells #[.string S, .string U, .string H, .int .i64 n, .slice ao F.length ac, .slice bo G.length bc] 58) := ⟨_, rfl⟩
  rw [← hw0] at hB0 bm0
  have HX := Lib.hid (fun (wx : World) (h : Below w0.heap.size w0 wx) => (show Blk wx w.heap.size 58 #[.string S, .string U, .string H, .int .i64 n, .slice ao F.length ac, .slice bo G.length bc] ∧ Below w.heap.size w wx ∧ RPrms wx (.slice ao F.length ac) F ∧ RPrms wx (.slice bo G.length bc) G ∧ Ml wx from by
    have hx := hB0.trans (h.mono hB0.size)
    exact ⟨bm0.call h, hx, HU1.out.below hx (Nat.le_refl _), HU2.out.below hx (Nat.le_refl _), HM.out.below hx⟩))
  have HW0 := Lib.hid hw0
  have hM0 := Lib.hid (HM.out.below hB0)
  have hZ : Below w0.heap.size w0 w0 := Below.refl _ _
  obtain ⟨p0, p1, p2, p3, p4, p5⟩ := blk_f6 bm0
  clear hw0 bm0 hB0
  by_cases hc : C = 0
  case neg =>
    rw [if_pos (.inl hc)] at hws
    have t0 : (C != 0) = true := by simpa using hc
    have hcz : (C == 0) = false := by simpa using hc
    have HE := Lib.hid (And.intro hws hcz)
    clear hws hcz hc
    go_enter Tryd.func21, Tryd.ntmps21
    go_wp2_with (first | (go_at_call 33; (try rw [← HW0.out]); refine (HPR.out _ hM0.out).mono ?_; rintro e w1 ⟨rfl, hC1⟩; obtain ⟨q0, hZ1, hU1, hU2, hM1⟩ := HX.out _ hC1; clear p0 p1 p2 p3 p4 p5; obtain ⟨p0, p1, p2, p3, p4, p5⟩ := blk_f6 q0) | (go_at_call 32; ((with_reducible refine (HCK.out w1 hM1 hU1 hU2).mono ?_); rintro e w2 ⟨rfl, hC2⟩; have hC12 := hC1.trans (hC2.mono hC1.size); obtain ⟨q2, hZ2, hV1, hV2, hM2⟩ := HX.out _ hC12; clear p0 p1 p2 p3 p4 p5; obtain ⟨p0, p1, p2, p3, p4, p5⟩ := blk_f6 q2)) | (go_at_call 32; ((with_reducible refine (HCK.out w2 hM2 hV1 hV2).mono ?_); rintro e w3 ⟨rfl, hC3⟩; have hC13 := hC12.trans (hC3.mono hC12.size); obtain ⟨q3, hZ3, hX1, hX2, hM3⟩ := HX.out _ hC13)))
    go_ret2
    exact ⟨C, by rw [HE.out.1]; rfl, by rw [HE.out.1]; exact HE.out.2, hZ3⟩
  subst hc
  by_cases hu : U.size = 0
  · obtain rfl := eq_empty hu
    rw [if_pos (.inr rfl)] at hws
    have HE := Lib.hid hws
    clear hws hu
    go_enter Tryd.func21, Tryd.ntmps21
    go_wp2_with (first | (go_at_call 33; (try rw [← HW0.out]); refine (HPR.out _ hM0.out).mono ?_; rintro e w1 ⟨rfl, hC1⟩; obtain ⟨q0, hZ1, hU1, hU2, hM1⟩ := HX.out _ hC1; clear p0 p1 p2 p3 p4 p5; obtain ⟨p0, p1, p2, p3, p4, p5⟩ := blk_f6 q0) | (go_at_call 32; ((with_reducible refine (HCK.out w1 hM1 hU1 hU2).mono ?_); rintro e w2 ⟨rfl, hC2⟩; have hC12 := hC1.trans (hC2.mono hC1.size); obtain ⟨q2, hZ2, hV1, hV2, hM2⟩ := HX.out _ hC12; clear p0 p1 p2 p3 p4 p5; obtain ⟨p0, p1, p2, p3, p4, p5⟩ := blk_f6 q2)))
    go_ret2
    exact ⟨31, by rw [HE.out]; rfl, by rw [HE.out]; rfl, hZ2⟩
  · rw [if_neg (by rintro (h | h); exact h rfl; exact us_neX U hu h)] at hws
    have HE := Lib.hid hws
    have e1 := isEmpty_f hu
    have e2 := ne_empty hu
    clear hws hu
    go_enter Tryd.func21, Tryd.ntmps21
    go_wp2_with (first | (go_at_call 33; (try rw [← HW0.out]); refine (HPR.out _ hM0.out).mono ?_; rintro e w1 ⟨rfl, hC1⟩; obtain ⟨q0, hZ1, hU1, hU2, hM1⟩ := HX.out _ hC1; clear p0 p1 p2 p3 p4 p5; obtain ⟨p0, p1, p2, p3, p4, p5⟩ := blk_f6 q0) | (go_at_call 32; ((with_reducible refine (HCK.out w1 hM1 hU1 hU2).mono ?_); rintro e w2 ⟨rfl, hC2⟩; have hC12 := hC1.trans (hC2.mono hC1.size); obtain ⟨q2, hZ2, hV1, hV2, hM2⟩ := HX.out _ hC12; clear p0 p1 p2 p3 p4 p5; obtain ⟨p0, p1, p2, p3, p4, p5⟩ := blk_f6 q2)) | (go_at_call 34; refine (HTP.out _).mono ?_; rintro e w3 ⟨rfl, rfl⟩))
    go_ret2
    exact ⟨PU.2, by rw [HE.out]; rfl, by rw [HE.out], hZ2⟩


set_option maxRecDepth 100000 in
set_option maxHeartbeats 6400000 in
theorem sameHost_c (s : ByteArray) (hs : s.size ≤ 1048576) (w : World) (hm : Ml w) :
    Calls Tryd.prog 16 #[.string s] w fun e w' => ∃ (x : ByteArray) (n : Int), e = .returned (.tuple #[.string x, .int .i64 n]) ∧ (n == 0) = hostW (us s) ∧ Below w.heap.size w w' := by
  obtain ⟨T, hT⟩ : ∃ T : ByteArray, T = (⟨#[115, 105, 112, 58]⟩ : ByteArray) ++ s := ⟨_, rfl⟩
  have hTs : T.size ≤ 4294967280 := by rw [hT, size_kSip]; omega
  have HPU := Lib.hid (fun wx hx => parseU_c T hTs wx hx)
  have hhw : hostW (us s) = ((parseU (us T)).2 == 0 && (whoS (parseU (us T)).1).2 && ((whoS (parseU (us T)).1).1 == us s)) := by rw [hT, us_kSip]; rfl
  obtain ⟨ho1, ho2⟩ := parseU_ok (us T)
  obtain ⟨R, hR⟩ : ∃ R, R = parseU (us T) := ⟨_, rfl⟩
  rw [← hR] at HPU hhw ho1 ho2
  have hs63 : (4 : Int) + s.size ≤ 9223372036854775807 := by omega
  have HT := Lib.hid hT
  have HM := Lib.hid hm
  clear hR hT hTs
  obtain ⟨HW, hHW⟩ : ∃ x, x = hostW (us s) := ⟨_, rfl⟩
  rw [← hHW] at hhw ⊢
  clear hHW
  by_cases h0 : R.2 = 0
  case neg =>
    have t0 : (R.2 != 0) = true := by simpa using h0
    have hx0 : (R.2 == 0) = false := by simpa using h0
    have HE := Lib.hid (show (R.2 == 0) = HW by rw [hhw, hx0]; rfl)
    clear hx0
    clear hhw h0 ho1 ho2
    go_enter Tryd.func16, Tryd.ntmps16
    go_wp2_with (first | (go_at_call 20; (try rw [← HT.out]); refine (HPU.out _ hm).mono ?_; rintro e w1 ⟨u1, u2, rfl, hu1, hu2, hf1, hf2, hB1⟩; obtain ⟨ao, ac, rfl, hm1, c1⟩ := hu1.form; obtain ⟨bo, bc, rfl, hm2, c2⟩ := hu2.form; have HU1 := Lib.hid hu1; have HU2 := Lib.hid hu2; have HB1 := Lib.hid hB1; clear c1 c2 hu1 hu2 hf1 hf2 hm1 hm2 hB1) | (with_reducible refine holdStore 58 rfl ?_))
    unfold Hold
    refine wpList_storeNew (vs := #[sv R.1.scheme, sv R.1.user, sv R.1.host, .int .i64 R.1.port, .slice ao R.1.ps.length ac, .slice bo R.1.hs.length bc]) rfl rfl rfl rfl (by kernel_rfl) (by rfl) (by rfl) ?_
    go_wp2
    go_ret2
    exact ⟨_, R.2, rfl, HE.out, HB1.out.alloc HB1.out.size _⟩
  have hck := ho1 h0
  obtain ⟨k1, k2, k3, k4, k5, k6, k7, k8⟩ := checkU_parts _ hck
  have b1 : ∀ p ∈ R.1.ps, p.name.length ≤ 4294967280 ∧ p.value.length ≤ 4294967280 := fun p hp => by have := (listU_ok k6).2 p hp; omega
  have b2 : ∀ p ∈ R.1.hs, p.name.length ≤ 4294967280 ∧ p.value.length ≤ 4294967280 := fun p hp => by have := (listU_ok k7).2 p hp; omega
  have b3 := (host_low _ k3).2.2
  have b4 := (scheme_facts _ k1).2.2.1
  have hwh : whoS ⟨us (bs R.1.scheme), us (bs R.1.user), us (bs R.1.host), R.1.port, R.1.ps, R.1.hs⟩ = whoS R.1 := by rw [us_bs, us_bs, us_bs]
  have HWH := Lib.hid (fun v1 v2 wx hx h1 h2 => sameWho_c (bs R.1.scheme) (bs R.1.user) (bs R.1.host) R.1.port v1 v2 R.1.ps R.1.hs (by rw [size_bs]; omega) (by rw [size_bs]; omega) (by omega) (by omega) wx hx h1 h2 b1 b2)
  rw [hwh] at HWH
  rw [h0] at hhw
  obtain ⟨Q, hQ⟩ : ∃ Q, Q = whoS R.1 := ⟨_, rfl⟩
  rw [← hQ] at HWH hhw
  have hqe : ((bs Q.1).toList == s.toList) = (Q.1 == us s) := by rw [toL, show s.toList = us s from by rw [← toL (us s), bs_us]]
  clear hQ hck k1 k2 k3 k4 k5 k6 k7 k8 ho1 ho2 b1 b2 b3 b4 hwh
  obtain ⟨Q1, hQ1⟩ : ∃ x, x = bs Q.1 := ⟨_, rfl⟩
  rw [← hQ1] at HWH hqe
  clear hQ1
  have hcs : (Q.2 = false ∧ HW = false) ∨ (Q.2 = true ∧ (Q1.toList == s.toList) = false ∧ HW = false) ∨ (Q.2 = true ∧ (Q1.toList == s.toList) = true ∧ HW = true) := by
    rw [hqe, hhw]
    cases Q.2 <;> cases (Q.1 == us s) <;> simp
  clear hhw hqe
  rcases hcs with ⟨k1, rfl⟩ | ⟨k1, k2, rfl⟩ | ⟨k1, k2, rfl⟩
  all_goals
    rw [k1] at HWH
    clear k1
    go_enter Tryd.func16, Tryd.ntmps16
    go_wp2_with (first | (go_at_call 20; (try rw [← HT.out]); refine (HPU.out _ hm).mono ?_; rintro e w1 ⟨u1, u2, rfl, hu1, hu2, hf1, hf2, hB1⟩; obtain ⟨ao, ac, rfl, hm1, c1⟩ := hu1.form; obtain ⟨bo, bc, rfl, hm2, c2⟩ := hu2.form; have HU1 := Lib.hid hu1; have HU2 := Lib.hid hu2; have HB1 := Lib.hid hB1; clear c1 c2 hu1 hu2 hf1 hf2 hm1 hm2 hB1) | (with_reducible refine holdStore 58 rfl ?_))
    unfold Hold
    refine wpList_storeNew (vs := #[sv R.1.scheme, sv R.1.user, sv R.1.host, .int .i64 R.1.port, .slice ao R.1.ps.length ac, .slice bo R.1.hs.length bc]) rfl rfl rfl rfl (by kernel_rfl) (by rfl) (by rfl) ?_
    obtain ⟨w2, hw2⟩ : ∃ w2, w2 = w1.alloc (.cells #[sv R.1.scheme, sv R.1.user, sv R.1.host, .int .i64 R.1.port, .slice ao R.1.ps.length ac, .slice bo R.1.hs.length bc] 58) := ⟨_, rfl⟩
    have hZ2 : Below w.heap.size w w2 := by rw [hw2]; exact HB1.out.alloc HB1.out.size _
    have bm : Blk w2 w1.heap.size 58 #[.string (bs R.1.scheme), .string (bs R.1.user), .string (bs R.1.host), .int .i64 R.1.port, .slice ao R.1.ps.length ac, .slice bo R.1.hs.length bc] := by rw [hw2]; exact Blk.new w1 _ _
    have hv1 : RPrms w2 (.slice ao R.1.ps.length ac) R.1.ps := by rw [hw2]; exact HU1.out.below ((Below.refl _ _).alloc (Nat.le_refl _) _) (Nat.le_refl _)
    have hv2 : RPrms w2 (.slice bo R.1.hs.length bc) R.1.hs := by rw [hw2]; exact HU2.out.below ((Below.refl _ _).alloc (Nat.le_refl _) _) (Nat.le_refl _)
    have hm2 := HM.out.below hZ2
    rw [← hw2]
    have HV := Lib.hid hw2
    clear hw2
    obtain ⟨p0, p1, p2, p3, p4, p5⟩ := blk_f6 bm
    go_wp2_with (go_at_call 21; refine (HWH.out _ _ _ hm2 hv1 hv2).mono ?_; rintro e w3 ⟨k, rfl, hk, hB3⟩; have hZ3 := hZ2.trans (hB3.mono hZ2.size); have bm3 := bm.call hB3; clear p0 p1 p2 p3 p4 p5; obtain ⟨p0, p1, p2, p3, p4, p5⟩ := blk_f6 bm3; have hkn : (k != 0) = !(k == 0) := rfl; rw [hk] at hkn; clear hk)
    all_goals
      go_ret2
      first
        | exact ⟨⟨#[]⟩, 31, rfl, rfl, hZ3⟩
        | exact ⟨bs R.1.host, 0, rfl, rfl, hZ3⟩

end Go.Proofs.YtbljmjbialinkaaDoor
