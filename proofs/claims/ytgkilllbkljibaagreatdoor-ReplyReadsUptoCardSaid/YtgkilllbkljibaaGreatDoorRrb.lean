/- Contracts of Go functions, and plain laws. No condition but those told. -/
import Derived.Test.YtgkilllbkljibaaGreatDoorRav
import Derived.Test.YtgkilllbkljibaaGreatDoorRdc
import Derived.Deep.RegionHeld3
set_option linter.unusedSimpArgs false
set_option linter.unusedVariables false
set_option maxRecDepth 100000
namespace Go.Proofs.YtgkilllbkljibaaGreatDoor
open Go.RowKit Go.Sort
theorem RHops.headR {w : World} {v : Value} {h : Hop} {L : List Hop} (hV : RHops w v (h :: L)) : ∃ b off cap ao c, v = .slice (some ⟨b, off, none⟩) (L.length + 1) cap ∧ HopAt w b off h (.slice ao h.ps.length c) := by
 rcases hV with ⟨_, h0⟩ | ⟨b, off, cap, h1, h2, h2', h3, h4⟩
 ·cases h0
 ·obtain ⟨x0, x1, u, x2, hu⟩ := h4 0 (by simp)
  simp only [Nat.zero_mul, Nat.add_zero, List.getElem_cons_zero] at x0 x1 x2 hu
  obtain ⟨ao, c, rfl, _⟩ := hu.form
  exact ⟨b, off, cap, ao, c, h1, x0, x1, x2, h3, hu⟩
theorem HopAt.drew {w : World} {b off : Nat} {h : Hop} {u : Value} (H : HopAt w b off h u) : HopAt w.drew b off h u := H.call (zDrew (Below.refl _ _))
set_option maxRecDepth 100000 in
set_option maxHeartbeats 6400000 in
theorem addressR_c (M TG RS B : ByteArray) (X : Int) (u : Value) (H : List Hdr) (nm : ByteArray) (hn : nm.size ≤ 140737488355328) (w : World) (hu : RHdrs w u H) (hb : ∀ h ∈ H, h.name.length ≤ 1048576 ∧ h.value.length ≤ 1048576) (hH : H.length ≤ 1048576) :
  Calls Tryz.prog 45 #[.agg #[.string M, .string TG, .int .i64 X, .string RS, u, .string B], .string nm] w (AdrPost (adrOf H (us nm)) w) := by
 have HM := κ (fun (wx : World) (h : Below w.heap.size w wx) => oneR_c' M TG RS B X u H nm hn wx (hu.below h (ρ _)) (fun h hh => by have := (hb h hh).1; omega) (by omega))
 have hbd := one_bdR 1048576 H (us nm) (fun x hx => (hb x hx).2)
 obtain ⟨mo, mc, rfl, _, _⟩ := hu.form
 obtain ⟨Q, hQ⟩ : ∃ x, x = adrOf H (us nm) := ⟨_, rfl⟩
 rw [← hQ]
 unfold adrOf at hQ
 obtain ⟨⟨vv, gg⟩, he⟩ : ∃ x, x = oneS H (us nm) := ⟨_, rfl⟩
 rw [← he] at HM hQ hbd
 dsimp only at HM hQ hbd
 have HPA := κ (fun wx => parseAR_c (bs vv) (by rw [size_bs]; omega) wx)
 rw [us_bs] at HPA
 clear hu hb he
 go_enter Tryz.func45, Tryz.ntmps45
 go_upto_region 1 with fail
 refine any_world (R := Code.wp _ _ _ _) (fun x => Blk x w.heap.size 24 #[.string M, .string TG, .int .i64 X, .string RS, .slice mo H.length mc, .string B] ∧ Blk x (w.heap.size + 1) 31 z8A ∧ Below w.heap.size w x) (show Blk ((w.alloc (.cells #[.string M, .string TG, .int .i64 X, .string RS, .slice mo H.length mc, .string B] 24)).alloc (.cells z8A 31)) _ _ _ ∧ Blk ((w.alloc (.cells #[.string M, .string TG, .int .i64 X, .string RS, .slice mo H.length mc, .string B] 24)).alloc (.cells z8A 31)) _ _ _ ∧ Below _ w ((w.alloc (.cells #[.string M, .string TG, .int .i64 X, .string RS, .slice mo H.length mc, .string B] 24)).alloc (.cells z8A 31)) from ⟨(Blk.new w _ _).alloc _, by have := Blk.new (w.alloc (.cells #[.string M, .string TG, .int .i64 X, .string RS, .slice mo H.length mc, .string B] 24)) 31 z8A; rwa [World.size_alloc] at this, ((Below.refl _ _).alloc (ρ _) _).alloc (by rw [World.size_alloc]; omega) _⟩) ?_
 rintro wr ⟨bm, b4, hB⟩
 go_upto_region 2 with (first | ((with_reducible refine holdLoad 24 rfl ?_); unfold Hold; refine wpList_loadB rfl rfl rfl Tryz.underlying24 (by kernel_rfl) bm (whole _) ?_) | (go_at_call 17; refine (HM.out _ hB).mono ?_; rintro e w1 ⟨rfl, hC⟩; replace b4 := b4.call hC; replace hB := hB.trans (hC.mono hB.size); clear hC bm))
 cases gg with
 | false =>
  rw [if_pos rfl] at hQ
  have HQ := κ hQ
  clear hQ
  go_wp2_with ((with_reducible refine holdStore 31 rfl ?_); unfold Hold; refine wpList_storeB (vs := z8A) rfl rfl rfl rfl (by kernel_rfl) b4 (Nat.le_of_eq (by kernel_rfl)) (by kernel_rfl) (setAll_whole (by kernel_rfl)) ?_; intro w9 bz9 hfar9 hsz9 hbel9)
  refine bodyPost_ret (results_ct rfl rfl rfl Tryz.underlying31 (by kernel_rfl) bz9) rfl ?_
  exact aErr HQ.out (hB.trans (hbel9 _ (by omega)))
 | true =>
  rw [if_neg (fun h => by cases h)] at hQ
  obtain ⟨⟨⟨d, ⟨sc, ur, ho, n, F, G⟩, P⟩, c⟩, hy⟩ : ∃ y, y = parseA vv := ⟨_, rfl⟩
  rw [← hy] at HPA hQ
  unfold AdrPost sv at HPA
  dsimp only at HPA
  have HQ := κ hQ
  clear hQ hy
  go_wp2_with (first | (go_at_call 37; refine (HPA.out _).mono ?_; rintro e w1 ⟨u1, u2, u3, rfl, j1, j2, j3, f1, f2, f3, hC⟩; have hlt := b4.lt; replace b4 := b4.call hC; have f1 := f1.mono (Nat.succ_le_of_lt hlt); have f2 := f2.mono (Nat.succ_le_of_lt hlt); have f3 := f3.mono (Nat.succ_le_of_lt hlt); replace hB := hB.trans (hC.mono hB.size); obtain ⟨o1, q1, rfl⟩ := j1.form'; obtain ⟨o2, q2, rfl⟩ := j2.form'; obtain ⟨o3, q3, rfl⟩ := j3.form'; clear hC hlt) | ((with_reducible refine holdStore 31 rfl ?_); unfold Hold; refine wpList_storeB (vs := #[.string (bs d), .string (bs sc), .string (bs ur), .string (bs ho), .int .i64 n, .slice o1 F.length q1, .slice o2 G.length q2, .slice o3 P.length q3]) rfl rfl rfl rfl (by kernel_rfl) b4 (Nat.le_of_eq (by kernel_rfl)) (by kernel_rfl) (setAll_whole (by kernel_rfl)) ?_; intro w9 bz9 hfar9 hsz9 hbel9))
  refine bodyPost_ret (results_ct rfl rfl rfl Tryz.underlying31 (by kernel_rfl) bz9) rfl ?_
  rw [HQ.out]
  exact ⟨_, _, _, rfl, Off.prms j1 (Off.fresh f1 (by omega)) hfar9 (Nat.le_of_eq hsz9.symm), Off.prms j2 (Off.fresh f2 (by omega)) hfar9 (Nat.le_of_eq hsz9.symm), Off.prms j3 (Off.fresh f3 (by omega)) hfar9 (Nat.le_of_eq hsz9.symm), f1.mono (by omega), f2.mono (by omega), f3.mono (by omega), hB.trans (hbel9 _ (by omega))⟩
theorem Blk.neT {w : World} {g g' : Nat} {t t' : TypeId} {cs cs' : Array Value} (h : Blk w g t cs) (h' : Blk w g' t' cs') (hn : t ≠ t') : g ≠ g' := by
 intro e
 subst e
 unfold Blk at h h'
 rw [h] at h'
 injection h' with h'
 injection h' with _ h' _
 exact hn h'
set_option maxRecDepth 100000 in
set_option maxHeartbeats 12800000 in
theorem baseR_c (M TG RS B : ByteArray) (X : Int) (u : Value) (H : List Hdr) (w : World) (hu : RHdrs w u H) (hb : ∀ h ∈ H, h.name.length ≤ 1048576 ∧ h.value.length ≤ 1048576) (hH : H.length ≤ 1048576) :
  Calls Tryz.prog 13 #[.agg #[.string M, .string TG, .int .i64 X, .string RS, u, .string B]] w (RPost (mustS ⟨us M, us TG, X, us RS, H, us B⟩) w) := by
 have HU := κ hu
 obtain ⟨mo, mc, rfl, _, _⟩ := hu.form
 have hb' : ∀ h ∈ H, h.name.length ≤ 140737488355328 := fun h hh => by have := (hb h hh).1; omega
 have hH' : H.length ≤ 4294967280 := by omega
 have HBD := κ (fun n => one_bdR 1048576 H n (fun x hx => (hb x hx).2))
 have HL := κ (fun (wx : World) (h : Below w.heap.size w wx) => listR_c M TG RS B X _ H wx (hu.below h (ρ _)) hb hH)
 have HOC := κ (fun (wx : World) (h : Below w.heap.size w wx) => oneR_c' M TG RS B X _ H ⟨#[67, 97, 108, 108, 45, 73, 68]⟩ (by decide) wx (hu.below h (ρ _)) hb' hH')
 rw [show us ⟨#[67, 97, 108, 108, 45, 73, 68]⟩ = nCall from rfl] at HOC
 have HOQ := κ (fun (wx : World) (h : Below w.heap.size w wx) => oneR_c' M TG RS B X _ H ⟨#[67, 83, 101, 113]⟩ (by decide) wx (hu.below h (ρ _)) hb' hH')
 rw [show us ⟨#[67, 83, 101, 113]⟩ = nCseq from rfl] at HOQ
 obtain ⟨⟨vC, gC⟩, eC⟩ : ∃ x, x = oneS H nCall := ⟨_, rfl⟩
 rw [← eC] at HOC
 dsimp only at HOC
 have lC : vC.length ≤ 1048576 := by have := HBD.out nCall; rw [← eC] at this; exact this
 have HEC := κ eC
 clear eC
 obtain ⟨⟨vQ, gQ⟩, eQ⟩ : ∃ x, x = oneS H nCseq := ⟨_, rfl⟩
 rw [← eQ] at HOQ
 dsimp only at HOQ
 have lQ : vQ.length ≤ 1048576 := by have := HBD.out nCseq; rw [← eQ] at this; exact this
 have HEQ := κ eQ
 clear eQ
 have HA1 := κ (fun (wx : World) (h : Below w.heap.size w wx) => addressR_c M TG RS B X _ H ⟨#[70, 114, 111, 109]⟩ (by decide) wx (hu.below h (ρ _)) hb hH)
 rw [show us ⟨#[70, 114, 111, 109]⟩ = nFrom from rfl] at HA1
 have hab1 : AdB (adrOf H nFrom).1 := by unfold adrOf; split; exact AdB.zero; exact parseA_bdR _
 unfold AdrPost at HA1
 obtain ⟨⟨⟨d1, ⟨s1, t1, h1, n1, F1, G1⟩, P1⟩, z1⟩, hy1⟩ : ∃ y, y = adrOf H nFrom := ⟨_, rfl⟩
 rw [← hy1] at HA1 hab1
 dsimp only at HA1 hab1
 unfold sv at HA1
 have HY1 := κ hy1.symm
 clear hy1
 have hP1 : ∀ p ∈ P1, p.name.length ≤ 4294967280 := fun p hp => by have := (hab1.2.2 p hp).1; omega
 have HTG1 := κ (fun (wx : World) o1 o2 o3 c1 c2 c3 (h : RPrms wx (.slice o3 P1.length c3) P1) => tagAR_c (bs d1) (bs s1) (bs t1) (bs h1) n1 (.slice o1 F1.length c1) (.slice o2 G1.length c2) (.slice o3 P1.length c3) F1 G1 P1 wx h hP1 ⟨_, _, rfl⟩ ⟨_, _, rfl⟩)
 clear hab1 hP1
 have HA2 := κ (fun (wx : World) (h : Below w.heap.size w wx) => addressR_c M TG RS B X _ H ⟨#[84, 111]⟩ (by decide) wx (hu.below h (ρ _)) hb hH)
 rw [show us ⟨#[84, 111]⟩ = nTo from rfl] at HA2
 have hab2 : AdB (adrOf H nTo).1 := by unfold adrOf; split; exact AdB.zero; exact parseA_bdR _
 unfold AdrPost at HA2
 obtain ⟨⟨⟨d2, ⟨s2, t2, h2, n2, F2, G2⟩, P2⟩, z2⟩, hy2⟩ : ∃ y, y = adrOf H nTo := ⟨_, rfl⟩
 rw [← hy2] at HA2 hab2
 dsimp only at HA2 hab2
 unfold sv at HA2
 have HY2 := κ hy2.symm
 clear hy2
 have hP2 : ∀ p ∈ P2, p.name.length ≤ 4294967280 := fun p hp => by have := (hab2.2.2 p hp).1; omega
 have HTG2 := κ (fun (wx : World) o1 o2 o3 c1 c2 c3 (h : RPrms wx (.slice o3 P2.length c3) P2) => tagAR_c (bs d2) (bs s2) (bs t2) (bs h2) n2 (.slice o1 F2.length c1) (.slice o2 G2.length c2) (.slice o3 P2.length c3) F2 G2 P2 wx h hP2 ⟨_, _, rfl⟩ ⟨_, _, rfl⟩)
 clear hab2 hP2
 have HCL := κ (fun wx => callR_c (bs vC) (by rw [size_bs]; omega) wx)
 rw [us_bs] at HCL
 have HSQ := κ (fun (wx : World) => seqR_c (bs vQ) (by rw [size_bs]; omega) wx)
 rw [us_bs, ← seq_same] at HSQ
 unfold SeqPost at HSQ
 obtain ⟨⟨sn, sm, sc⟩, hsq⟩ : ∃ y, y = seqP vQ := ⟨_, rfl⟩
 rw [← hsq] at HSQ
 dsimp only at HSQ
 have HSE := κ hsq
 clear hsq
 obtain ⟨kC, hkC⟩ : ∃ x, x = callS vC := ⟨_, rfl⟩
 rw [← hkC] at HCL
 have HKC := κ hkC
 clear hkC
 have HLV := κ (listV_bdR (allS H nVia))
 obtain ⟨⟨hl, lc⟩, hLv⟩ : ∃ x, x = listV (allS H nVia) := ⟨_, rfl⟩
 rw [← hLv] at HL HLV
 dsimp only at HL HLV
 obtain ⟨mg, hmg⟩ : ∃ x : Mg, x = ⟨us M, us TG, X, us RS, H, us B⟩ := ⟨_, rfl⟩
 rw [← hmg]
 have HMM : Hid (mg.method = us M) := κ (by rw [hmg])
 have HMB : Hid (mg.body = us B) := κ (by rw [hmg])
 have HMH : Hid (mg.hdrs = H) := κ (by rw [hmg])
 clear hmg hb hb' hH' hu HBD
 by_cases hz : M.size = 0
 ·obtain rfl := eq_empty hz
  go_enter Tryz.func13, Tryz.ntmps13
  go_upto_region 2 with ((with_reducible refine holdStore 37 rfl ?_); unfold Hold; refine wpList_storeNew (vs := zrow) rfl rfl (by rw [World.size_alloc, World.size_alloc]; rfl) rfl (by kernel_rfl) (by kernel_rfl) (by kernel_rfl) ?_; refine wpList_to (MSt w #[.string ByteArray.empty, .string TG, .int .i64 X, .string RS, .slice mo H.length mc, .string B] zrow) (MSt.start w _ _) ?_; intro wr hM)
  have p0 : wr.cell? ⟨w.heap.size, 0, none⟩ = some (.string ByteArray.empty) := boxedCell hM.bm 0
  have HR1 : Hid (mustS mg = (rq0, 1)) := κ (mustS_1 (by rw [HMM.out]; rfl))
  go_wp2_with (first | ((with_reducible refine holdLoad 37 rfl ?_); unfold Hold; refine wpList_loadB (vs := zrow) rfl rfl rfl Tryz.underlying37 (by kernel_rfl) hM.br (whole _) ?_) | ((with_reducible refine holdStore 37 rfl ?_); unfold Hold; refine wpList_storeB (vs := zrow) rfl rfl rfl rfl (by kernel_rfl) hM.b2 (Nat.le_of_eq (by kernel_rfl)) (by kernel_rfl) (setAll_whole (by kernel_rfl)) ?_; intro w9 bz9 hfar9 hsz9 hbel9))
  refine bodyPost_ret (results_ct rfl rfl rfl Tryz.underlying37 (by kernel_rfl) bz9) rfl ?_
  exact rEnd HR1.out (hM.hB.trans (hbel9 _ (by omega)))
 ·have pE := ne_empty hz
  have pF := isEmpty_f hz
  have hne := κ (us_neR hz)
  clear hz
  go_enter Tryz.func13, Tryz.ntmps13
  go_upto_region 2 with ((with_reducible refine holdStore 37 rfl ?_); unfold Hold; refine wpList_storeNew (vs := zrow) rfl rfl (by rw [World.size_alloc, World.size_alloc]; rfl) rfl (by kernel_rfl) (by kernel_rfl) (by kernel_rfl) ?_; refine wpList_to (MSt w #[.string M, .string TG, .int .i64 X, .string RS, .slice mo H.length mc, .string B] zrow) (MSt.start w _ _) ?_; intro wr hM)
  have p0 : wr.cell? ⟨w.heap.size, 0, none⟩ = some (.string M) := boxedCell hM.bm 0
  go_upto_region 5 with (first | ((with_reducible refine holdLoad 24 rfl ?_); unfold Hold; refine wpList_loadB rfl rfl rfl Tryz.underlying24 (by kernel_rfl) hM.bm (whole _) ?_) | (go_at_call 43; refine (HL.out _ hM.hB).mono ?_; rintro e w1 ⟨vl, rfl, hV, hC⟩; replace hM := hM.call hC; obtain ⟨vlo, vlc, rfl, _⟩ := hV.form; clear p0 hC))
  by_cases hlc : lc = 0
  rotate_left
  ·have tne : (lc != 0) = true := by simpa using hlc
   have HC := κ hlc
   have HR0 := mustS_2 (m := mg) (by rw [HMM.out]; exact hne.out) (by rw [HMH.out]; exact hLv) hlc
   clear hlc
   have HR1 : Hid (mustS mg = (rq0, lc)) := κ (Prod.ext (must_err mg (by rw [HR0]; first | exact HC.out | decide)) (HR0))
   go_wp2_with (first | ((with_reducible refine holdLoad 37 rfl ?_); unfold Hold; refine wpList_loadB (vs := zrow) rfl rfl rfl Tryz.underlying37 (by kernel_rfl) hM.br (whole _) ?_) | ((with_reducible refine holdStore 37 rfl ?_); unfold Hold; refine wpList_storeB (vs := zrow) rfl rfl rfl rfl (by kernel_rfl) hM.b2 (Nat.le_of_eq (by kernel_rfl)) (by kernel_rfl) (setAll_whole (by kernel_rfl)) ?_; intro w9 bz9 hfar9 hsz9 hbel9))
   refine bodyPost_ret (results_ct rfl rfl rfl Tryz.underlying37 (by kernel_rfl) bz9) rfl ?_
   exact rEnd HR1.out (hM.hB.trans (hbel9 _ (by omega)))
  subst hlc
  obtain ⟨v, r, hv, hck⟩ := HLV.out rfl
  subst hv
  obtain ⟨y1, y2, y3, y4⟩ := hop_bdR v hck
  obtain ⟨b, off, cap, ao, c, e9, hP⟩ := hV.headR
  injection e9 with e8 e7 e6
  subst e8 e6
  clear e7 hV hck HLV
  have HBR := κ (fun (wx : World) (h : RPrms wx (.slice ao v.ps.length c) v.ps) => branchVR_c (bs v.host) v.port _ v.ps wx h (fun p hp => by have := (y4 p hp).1; omega) (Nat.le_trans (value_leR 64 nBranch v.ps (fun p hp => (y4 p hp).2)) (by decide)))
  have HBY := κ (fun (wx : World) (h : RPrms wx (.slice ao v.ps.length c) v.ps) => byVR_c (bs v.host) v.port _ v.ps (by rw [size_bs]; omega) (by omega) (by omega) wx h)
  rw [us_bs] at HBR HBY
  rw [show (⟨v.host, v.port, v.ps⟩ : Hop) = v from rfl] at HBR HBY
  have HLE := κ hLv
  clear hLv y1 y2 y3 y4
  obtain ⟨x0, x1, x2⟩ : _ ∧ _ ∧ _ := ⟨hP.c0, hP.c1, hP.c2⟩
  obtain ⟨bk, hbk⟩ : ∃ x, x = (branchV v).2 := ⟨_, rfl⟩
  rw [← hbk] at HBR
  have HBK := κ hbk
  clear hbk
  go_upto_region 8 with (go_at_call 44; refine (HBR.out _ hP.ps).mono ?_; rintro e w1 ⟨rfl, hC⟩; replace hM := hM.call hC; replace hP := hP.call hC; clear x0 x1 x2 hC)
  cases bk with
  | false =>
   have HR0 := mustS_3 (m := mg) (by rw [HMM.out]; exact hne.out) (by rw [HMH.out]; exact HLE.out) HBK.out.symm
   have HR1 : Hid (mustS mg = (rq0, 70)) := κ (Prod.ext (must_err mg (by rw [HR0]; first | exact HC.out | decide)) (HR0))
   go_wp2_with (first | ((with_reducible refine holdLoad 37 rfl ?_); unfold Hold; refine wpList_loadB (vs := zrow) rfl rfl rfl Tryz.underlying37 (by kernel_rfl) hM.br (whole _) ?_) | ((with_reducible refine holdStore 37 rfl ?_); unfold Hold; refine wpList_storeB (vs := zrow) rfl rfl rfl rfl (by kernel_rfl) hM.b2 (Nat.le_of_eq (by kernel_rfl)) (by kernel_rfl) (setAll_whole (by kernel_rfl)) ?_; intro w9 bz9 hfar9 hsz9 hbel9))
   refine bodyPost_ret (results_ct rfl rfl rfl Tryz.underlying37 (by kernel_rfl) bz9) rfl ?_
   exact rEnd HR1.out (hM.hB.trans (hbel9 _ (by omega)))
  | true =>
   have HR := κ (mustS_4 (m := mg) (by rw [HMM.out]; exact hne.out) (by rw [HMH.out]; exact HLE.out) HBK.out.symm)
   clear HBR HBK HLE HL hne
   go_upto_region 11 with (first | ((with_reducible refine holdLoad 24 rfl ?_); unfold Hold; refine wpList_loadB rfl rfl rfl Tryz.underlying24 (by kernel_rfl) hM.bm (whole _) ?_) | (go_at_call 45; refine (HA1.out _ hM.hB).mono ?_; rintro e w2 ⟨u1, u2, u3, rfl, j1, j2, j3, f1, f2, f3, hC⟩; obtain ⟨o1, c1, rfl⟩ := j1.form'; obtain ⟨p1, q1, rfl⟩ := j2.form'; obtain ⟨r1, e1, rfl⟩ := j3.form'; have hA1 : Ad3 (w.heap.size + 1 + 1 + 1) w2 (.slice o1 F1.length c1) (.slice p1 G1.length q1) (.slice r1 P1.length e1) ⟨d1, ⟨s1, t1, h1, n1, F1, G1⟩, P1⟩ := ⟨j1, j2, j3, f1.mono (Nat.succ_le_of_lt hM.lt), f2.mono (Nat.succ_le_of_lt hM.lt), f3.mono (Nat.succ_le_of_lt hM.lt)⟩; replace hM := hM.call hC; replace hP := hP.call hC;  clear hC j1 j2 j3 f1 f2 f3) | ((with_reducible refine holdStore 31 rfl ?_); unfold Hold; refine wpList_storeNew (vs := #[.string (bs d1), .string (bs s1), .string (bs t1), .string (bs h1), .int .i64 n1, .slice o1 F1.length c1, .slice p1 G1.length q1, .slice r1 P1.length e1]) rfl rfl rfl rfl (by kernel_rfl) (by kernel_rfl) (by kernel_rfl) ?_; refine wpList_to (fun x => ∃ g1 : Nat, MSt w #[.string M, .string TG, .int .i64 X, .string RS, .slice mo H.length mc, .string B] zrow x ∧ HopAt x b off v (.slice ao v.ps.length c) ∧ Ad3 (w.heap.size + 1 + 1 + 1) x (.slice o1 F1.length c1) (.slice p1 G1.length q1) (.slice r1 P1.length e1) ⟨d1, ⟨s1, t1, h1, n1, F1, G1⟩, P1⟩ ∧ Blk x g1 31 #[.string (bs d1), .string (bs s1), .string (bs t1), .string (bs h1), .int .i64 n1, .slice o1 F1.length c1, .slice p1 G1.length q1, .slice r1 P1.length e1] ∧ g1 = w2.heap.size) ⟨_, hM.alloc _, hP.call ((Below.refl _ _).alloc (ρ _) _), hA1.call ((Below.refl _ _).alloc (ρ _) _), Blk.new _ _ _, rfl⟩ ?_; clear hM hP hA1; rintro w3 ⟨ga1, hM, hP, hA1, ba1, hge⟩; rw [← hge]; clear hge))
   by_cases hz : z1 = 0
   rotate_left
   ·have tne : (z1 != 0) = true := by simpa using hz
    have HC := κ hz
    have HR0 : (mustS mg).2 = z1 := by rw [HR.out]; exact must2_F (by rw [HMH.out]; exact HY1.out) HC.out
    clear hz
    have HR1 : Hid (mustS mg = (rq0, z1)) := κ (Prod.ext (must_err mg (by rw [HR0]; first | exact HC.out | decide)) (HR0))
    go_wp2_with (first | ((with_reducible refine holdLoad 37 rfl ?_); unfold Hold; refine wpList_loadB (vs := zrow) rfl rfl rfl Tryz.underlying37 (by kernel_rfl) hM.br (whole _) ?_) | ((with_reducible refine holdStore 37 rfl ?_); unfold Hold; refine wpList_storeB (vs := zrow) rfl rfl rfl rfl (by kernel_rfl) hM.b2 (Nat.le_of_eq (by kernel_rfl)) (by kernel_rfl) (setAll_whole (by kernel_rfl)) ?_; intro w9 bz9 hfar9 hsz9 hbel9))
    refine bodyPost_ret (results_ct rfl rfl rfl Tryz.underlying37 (by kernel_rfl) bz9) rfl ?_
    exact rEnd HR1.out (hM.hB.trans (hbel9 _ (by omega)))
   subst hz
   go_upto_region 14 with (first | ((with_reducible refine holdLoad 24 rfl ?_); unfold Hold; refine wpList_loadB rfl rfl rfl Tryz.underlying24 (by kernel_rfl) hM.bm (whole _) ?_) | (go_at_call 45; refine (HA2.out _ hM.hB).mono ?_; rintro e w2 ⟨u1, u2, u3, rfl, j1, j2, j3, f1, f2, f3, hC⟩; obtain ⟨o2, c2, rfl⟩ := j1.form'; obtain ⟨p2, q2, rfl⟩ := j2.form'; obtain ⟨r2, e2, rfl⟩ := j3.form'; have hA2 : Ad3 (w.heap.size + 1 + 1 + 1) w2 (.slice o2 F2.length c2) (.slice p2 G2.length q2) (.slice r2 P2.length e2) ⟨d2, ⟨s2, t2, h2, n2, F2, G2⟩, P2⟩ := ⟨j1, j2, j3, f1.mono (Nat.succ_le_of_lt hM.lt), f2.mono (Nat.succ_le_of_lt hM.lt), f3.mono (Nat.succ_le_of_lt hM.lt)⟩; replace hM := hM.call hC; replace hP := hP.call hC;  replace ba1 := ba1.call hC; replace hA1 := hA1.call hC; clear hC j1 j2 j3 f1 f2 f3) | ((with_reducible refine holdStore 31 rfl ?_); unfold Hold; refine wpList_storeNew (vs := #[.string (bs d2), .string (bs s2), .string (bs t2), .string (bs h2), .int .i64 n2, .slice o2 F2.length c2, .slice p2 G2.length q2, .slice r2 P2.length e2]) rfl rfl rfl rfl (by kernel_rfl) (by kernel_rfl) (by kernel_rfl) ?_; refine wpList_to (fun x => ∃ g2 : Nat, MSt w #[.string M, .string TG, .int .i64 X, .string RS, .slice mo H.length mc, .string B] zrow x ∧ HopAt x b off v (.slice ao v.ps.length c) ∧ Ad3 (w.heap.size + 1 + 1 + 1) x (.slice o2 F2.length c2) (.slice p2 G2.length q2) (.slice r2 P2.length e2) ⟨d2, ⟨s2, t2, h2, n2, F2, G2⟩, P2⟩ ∧ Blk x g2 31 #[.string (bs d2), .string (bs s2), .string (bs t2), .string (bs h2), .int .i64 n2, .slice o2 F2.length c2, .slice p2 G2.length q2, .slice r2 P2.length e2] ∧ g2 = w2.heap.size ∧ Ad3 (w.heap.size + 1 + 1 + 1) x (.slice o1 F1.length c1) (.slice p1 G1.length q1) (.slice r1 P1.length e1) ⟨d1, ⟨s1, t1, h1, n1, F1, G1⟩, P1⟩ ∧ Blk x ga1 31 #[.string (bs d1), .string (bs s1), .string (bs t1), .string (bs h1), .int .i64 n1, .slice o1 F1.length c1, .slice p1 G1.length q1, .slice r1 P1.length e1]) ⟨_, hM.alloc _, hP.call ((Below.refl _ _).alloc (ρ _) _), hA2.call ((Below.refl _ _).alloc (ρ _) _), Blk.new _ _ _, rfl, hA1.call ((Below.refl _ _).alloc (ρ _) _), ba1.call ((Below.refl _ _).alloc (ρ _) _)⟩ ?_; clear hM hP hA2 hA1 ba1; rintro w3 ⟨ga2, hM, hP, hA2, ba2, hge, hA1, ba1⟩; rw [← hge]; clear hge))
   by_cases hz : z2 = 0
   rotate_left
   ·have tne : (z2 != 0) = true := by simpa using hz
    have HC := κ hz
    have HR0 : (mustS mg).2 = z2 := by rw [HR.out]; exact must2_T (by rw [HMH.out]; exact HY1.out) (by rw [HMH.out]; exact HY2.out) HC.out
    clear hz
    have HR1 : Hid (mustS mg = (rq0, z2)) := κ (Prod.ext (must_err mg (by rw [HR0]; first | exact HC.out | decide)) (HR0))
    go_wp2_with (first | ((with_reducible refine holdLoad 37 rfl ?_); unfold Hold; refine wpList_loadB (vs := zrow) rfl rfl rfl Tryz.underlying37 (by kernel_rfl) hM.br (whole _) ?_) | ((with_reducible refine holdStore 37 rfl ?_); unfold Hold; refine wpList_storeB (vs := zrow) rfl rfl rfl rfl (by kernel_rfl) hM.b2 (Nat.le_of_eq (by kernel_rfl)) (by kernel_rfl) (setAll_whole (by kernel_rfl)) ?_; intro w9 bz9 hfar9 hsz9 hbel9))
    refine bodyPost_ret (results_ct rfl rfl rfl Tryz.underlying37 (by kernel_rfl) bz9) rfl ?_
    exact rEnd HR1.out (hM.hB.trans (hbel9 _ (by omega)))
   subst hz
   have HR3 := κ (HR.out.trans (must2_ok (m := mg) (v := v) (by rw [HMH.out]; exact HY1.out) (by rw [HMH.out]; exact HY2.out)))
   go_upto_region 17 with (first | ((with_reducible refine holdLoad 24 rfl ?_); unfold Hold; refine wpList_loadB rfl rfl rfl Tryz.underlying24 (by kernel_rfl) hM.bm (whole _) ?_) | (go_at_call 17; refine (HOC.out _ hM.hB).mono ?_; rintro e w1 ⟨rfl, hC⟩; replace hM := hM.call hC; replace hP := hP.call hC; replace hA1 := hA1.call hC; replace hA2 := hA2.call hC; replace ba1 := ba1.call hC; replace ba2 := ba2.call hC; clear hC))
   go_upto_region 18 with (first | ((with_reducible refine holdLoad 24 rfl ?_); unfold Hold; refine wpList_loadB rfl rfl rfl Tryz.underlying24 (by kernel_rfl) hM.bm (whole _) ?_) | (go_at_call 17; refine (HOQ.out _ hM.hB).mono ?_; rintro e w1 ⟨rfl, hC⟩; replace hM := hM.call hC; replace hP := hP.call hC; replace hA1 := hA1.call hC; replace hA2 := hA2.call hC; replace ba1 := ba1.call hC; replace ba2 := ba2.call hC; clear hC))
   cases gC with
   | false =>
    have HR0 : (mustS mg).2 = 100 := by rw [HR3.out]; exact must3_0 (HEC.out.trans (by rw [HMH.out])) (HEQ.out.trans (by rw [HMH.out])) (.inl rfl)
    have HR1 : Hid (mustS mg = (rq0, 100)) := κ (Prod.ext (must_err mg (by rw [HR0]; first | exact HC.out | decide)) (HR0))
    go_wp2_with (first | (go_at_call 46; refine (HCL.out _).mono ?_; rintro e w1 ⟨rfl, rfl⟩) | ((with_reducible refine holdLoad 37 rfl ?_); unfold Hold; refine wpList_loadB (vs := zrow) rfl rfl rfl Tryz.underlying37 (by kernel_rfl) hM.br (whole _) ?_) | ((with_reducible refine holdStore 37 rfl ?_); unfold Hold; refine wpList_storeB (vs := zrow) rfl rfl rfl rfl (by kernel_rfl) hM.b2 (Nat.le_of_eq (by kernel_rfl)) (by kernel_rfl) (setAll_whole (by kernel_rfl)) ?_; intro w9 bz9 hfar9 hsz9 hbel9))
    refine bodyPost_ret (results_ct rfl rfl rfl Tryz.underlying37 (by kernel_rfl) bz9) rfl ?_
    exact rEnd HR1.out (hM.hB.trans (hbel9 _ (by omega)))
   | true =>
    cases gQ with
    | false =>
     have HR0 : (mustS mg).2 = 100 := by rw [HR3.out]; exact must3_0 (HEC.out.trans (by rw [HMH.out])) (HEQ.out.trans (by rw [HMH.out])) (.inr (.inl rfl))
     have HR1 : Hid (mustS mg = (rq0, 100)) := κ (Prod.ext (must_err mg (by rw [HR0]; first | exact HC.out | decide)) (HR0))
     go_wp2_with (first | (go_at_call 46; refine (HCL.out _).mono ?_; rintro e w1 ⟨rfl, rfl⟩) | ((with_reducible refine holdLoad 37 rfl ?_); unfold Hold; refine wpList_loadB (vs := zrow) rfl rfl rfl Tryz.underlying37 (by kernel_rfl) hM.br (whole _) ?_) | ((with_reducible refine holdStore 37 rfl ?_); unfold Hold; refine wpList_storeB (vs := zrow) rfl rfl rfl rfl (by kernel_rfl) hM.b2 (Nat.le_of_eq (by kernel_rfl)) (by kernel_rfl) (setAll_whole (by kernel_rfl)) ?_; intro w9 bz9 hfar9 hsz9 hbel9))
     refine bodyPost_ret (results_ct rfl rfl rfl Tryz.underlying37 (by kernel_rfl) bz9) rfl ?_
     exact rEnd HR1.out (hM.hB.trans (hbel9 _ (by omega)))
    | true =>
     cases kC with
     | false =>
      have HR0 : (mustS mg).2 = 100 := by rw [HR3.out]; exact must3_0 (HEC.out.trans (by rw [HMH.out])) (HEQ.out.trans (by rw [HMH.out])) (.inr (.inr HKC.out.symm))
      have HR1 : Hid (mustS mg = (rq0, 100)) := κ (Prod.ext (must_err mg (by rw [HR0]; first | exact HC.out | decide)) (HR0))
      go_wp2_with (first | (go_at_call 46; refine (HCL.out _).mono ?_; rintro e w1 ⟨rfl, rfl⟩) | ((with_reducible refine holdLoad 37 rfl ?_); unfold Hold; refine wpList_loadB (vs := zrow) rfl rfl rfl Tryz.underlying37 (by kernel_rfl) hM.br (whole _) ?_) | ((with_reducible refine holdStore 37 rfl ?_); unfold Hold; refine wpList_storeB (vs := zrow) rfl rfl rfl rfl (by kernel_rfl) hM.b2 (Nat.le_of_eq (by kernel_rfl)) (by kernel_rfl) (setAll_whole (by kernel_rfl)) ?_; intro w9 bz9 hfar9 hsz9 hbel9))
      refine bodyPost_ret (results_ct rfl rfl rfl Tryz.underlying37 (by kernel_rfl) bz9) rfl ?_
      exact rEnd HR1.out (hM.hB.trans (hbel9 _ (by omega)))
     | true =>
      by_cases hsc : sc = 0
      rotate_left
      ·have tne : (sc != 0) = true := by simpa using hsc
       have HC := κ hsc
       clear hsc
       have HR0 : (mustS mg).2 = 80 := by rw [HR3.out]; exact must3_1 (HEC.out.trans (by rw [HMH.out])) (HEQ.out.trans (by rw [HMH.out])) HKC.out.symm HSE.out (.inl HC.out)
       have HR1 : Hid (mustS mg = (rq0, 80)) := κ (Prod.ext (must_err mg (by rw [HR0]; first | exact HC.out | decide)) (HR0))
       go_wp2_with (first | (go_at_call 46; refine (HCL.out _).mono ?_; rintro e w1 ⟨rfl, rfl⟩) | (go_at_call 47; refine (HSQ.out _).mono ?_; rintro e w1 ⟨rfl, hC⟩; replace hM := hM.call hC; replace hP := hP.call hC; replace hA1 := hA1.call hC; replace hA2 := hA2.call hC; replace ba1 := ba1.call hC; replace ba2 := ba2.call hC; clear hC; have p0 : w1.cell? ⟨w.heap.size, 0, none⟩ = some (.string M) := boxedCell hM.bm 0) | ((with_reducible refine holdLoad 37 rfl ?_); unfold Hold; refine wpList_loadB (vs := zrow) rfl rfl rfl Tryz.underlying37 (by kernel_rfl) hM.br (whole _) ?_) | ((with_reducible refine holdStore 37 rfl ?_); unfold Hold; refine wpList_storeB (vs := zrow) rfl rfl rfl rfl (by kernel_rfl) hM.b2 (Nat.le_of_eq (by kernel_rfl)) (by kernel_rfl) (setAll_whole (by kernel_rfl)) ?_; intro w9 bz9 hfar9 hsz9 hbel9))
       refine bodyPost_ret (results_ct rfl rfl rfl Tryz.underlying37 (by kernel_rfl) bz9) rfl ?_
       exact rEnd HR1.out (hM.hB.trans (hbel9 _ (by omega)))
      subst hsc
      by_cases hme : sm = us M
      rotate_left
      ·have tne : (sm == M.toList) = false := by rw [toList_us]; simpa using hme
       have HC := κ hme
       clear hme
       have HR0 : (mustS mg).2 = 80 := by rw [HR3.out]; exact must3_1 (HEC.out.trans (by rw [HMH.out])) (HEQ.out.trans (by rw [HMH.out])) HKC.out.symm HSE.out (.inr (by rw [HMM.out]; exact HC.out))
       have HR1 : Hid (mustS mg = (rq0, 80)) := κ (Prod.ext (must_err mg (by rw [HR0]; first | exact HC.out | decide)) (HR0))
       go_wp2_with (first | (go_at_call 46; refine (HCL.out _).mono ?_; rintro e w1 ⟨rfl, rfl⟩) | (go_at_call 47; refine (HSQ.out _).mono ?_; rintro e w1 ⟨rfl, hC⟩; replace hM := hM.call hC; replace hP := hP.call hC; replace hA1 := hA1.call hC; replace hA2 := hA2.call hC; replace ba1 := ba1.call hC; replace ba2 := ba2.call hC; clear hC; have p0 : w1.cell? ⟨w.heap.size, 0, none⟩ = some (.string M) := boxedCell hM.bm 0) | ((with_reducible refine holdLoad 37 rfl ?_); unfold Hold; refine wpList_loadB (vs := zrow) rfl rfl rfl Tryz.underlying37 (by kernel_rfl) hM.br (whole _) ?_) | ((with_reducible refine holdStore 37 rfl ?_); unfold Hold; refine wpList_storeB (vs := zrow) rfl rfl rfl rfl (by kernel_rfl) hM.b2 (Nat.le_of_eq (by kernel_rfl)) (by kernel_rfl) (setAll_whole (by kernel_rfl)) ?_; intro w9 bz9 hfar9 hsz9 hbel9))
       refine bodyPost_ret (results_ct rfl rfl rfl Tryz.underlying37 (by kernel_rfl) bz9) rfl ?_
       exact rEnd HR1.out (hM.hB.trans (hbel9 _ (by omega)))
      subst hme
      rw [bs_us] at HSQ
      have HF := κ (HR3.out.trans (must3_ok (m := mg) (v := v) (HEC.out.trans (by rw [HMH.out])) (HEQ.out.trans (by rw [HMH.out])) HKC.out.symm HSE.out HMM.out.symm))
      go_upto_region 23 with (first | (go_at_call 46; refine (HCL.out _).mono ?_; rintro e w1 ⟨rfl, rfl⟩) | (go_at_call 47; refine (HSQ.out _).mono ?_; rintro e w1 ⟨rfl, hC⟩; replace hM := hM.call hC; replace hP := hP.call hC; replace hA1 := hA1.call hC; replace hA2 := hA2.call hC; replace ba1 := ba1.call hC; replace ba2 := ba2.call hC; clear hC; have p0 : w1.cell? ⟨w.heap.size, 0, none⟩ = some (.string M) := boxedCell hM.bm 0))
      clear p0
      refine wp_region_held_drew (S := fun wx => Blk wx w.heap.size 24 #[.string M, .string TG, .int .i64 X, .string RS, .slice mo H.length mc, .string B] ∧ Blk wx ga1 31 #[.string (bs d1), .string (bs s1), .string (bs t1), .string (bs h1), .int .i64 n1, .slice o1 F1.length c1, .slice p1 G1.length q1, .slice r1 P1.length e1] ∧ Blk wx ga2 31 #[.string (bs d2), .string (bs s2), .string (bs t2), .string (bs h2), .int .i64 n2, .slice o2 F2.length c2, .slice p2 G2.length q2, .slice r2 P2.length e2]) (by kernel_rfl) ⟨Blk.drw hM.bm, Blk.drw ba1, Blk.drw ba2⟩ (fun hHeld => ?_)
      replace hM := hM.drew
      replace hP := hP.drew
      replace ba1 := Blk.drw ba1
      replace ba2 := Blk.drw ba2
      replace hA1 := hA1.call (zDrew (Below.refl _ _))
      replace hA2 := hA2.call (zDrew (Below.refl _ _))
      refine tkH 0 ?_
      try simp only [Act.put, agT]
      refine tkH 1 ?_ (v := .string M) (hy := by intro wx hSw; have c1 : wx.cell? ⟨w.heap.size, 0, none⟩ = some (.string M) := boxedCell hSw.1 0; go_simp)
      try simp only [Act.put, agT]
      refine tkH 2 ?_
      try simp only [Act.put, agT]
      refine tkH 3 ?_
      try simp only [Act.put, agT]
      refine tkH 4 ?_
      try simp only [Act.put, agT]
      refine tkH 7 ?_ (v := .agg #[.string (bs d1), .string (bs s1), .string (bs t1), .string (bs h1), .int .i64 n1, .slice o1 F1.length c1, .slice p1 G1.length q1, .slice r1 P1.length e1]) (hy := by intro wx hSw; exact run_loadBo (off := 0) rfl rfl Tryz.underlying31 (by kernel_rfl) hSw.2.1 (whole _))
      try simp only [Act.put, agT]
      refine tkH 8 ?_ (v := .agg #[.string (bs d2), .string (bs s2), .string (bs t2), .string (bs h2), .int .i64 n2, .slice o2 F2.length c2, .slice p2 G2.length q2, .slice r2 P2.length e2]) (hy := by intro wx hSw; exact run_loadBo (off := 0) rfl rfl Tryz.underlying31 (by kernel_rfl) hSw.2.2 (whole _))
      try simp only [Act.put, agT]
      refine tkH 9 ?_ (v := .agg #[.string (bs d1), .string (bs s1), .string (bs t1), .string (bs h1), .int .i64 n1, .slice o1 F1.length c1, .slice p1 G1.length q1, .slice r1 P1.length e1]) (hy := by intro wx hSw; exact run_loadBo (off := 0) rfl rfl Tryz.underlying31 (by kernel_rfl) hSw.2.1 (whole _))
      try simp only [Act.put, agT]
      refine tkH 11 ?_ (v := .agg #[.string (bs d2), .string (bs s2), .string (bs t2), .string (bs h2), .int .i64 n2, .slice o2 F2.length c2, .slice p2 G2.length q2, .slice r2 P2.length e2]) (hy := by intro wx hSw; exact run_loadBo (off := 0) rfl rfl Tryz.underlying31 (by kernel_rfl) hSw.2.2 (whole _))
      try simp only [Act.put, agT]
      refine tkH 13 ?_
      try simp only [Act.put, agT]
      refine tkH 14 ?_
      try simp only [Act.put, agT]
      refine tkH 15 ?_
      try simp only [Act.put, agT]
      refine tkH 16 ?_ (v := .string B) (hy := by intro wx hSw; have c1 : wx.cell? ⟨w.heap.size, 5, none⟩ = some (.string B) := boxedCell hSw.1 5; go_simp)
      try simp only [Act.put, agT]
      refine rdyH 5 (fun K hK => ?_)
      have c1 := hP.c0
      have c2 := hP.c1
      have c3 := hP.c2
      go_simp
      clear c1 c2 c3
      refine hK.out _ _ ?_ (fun hHeld => ?_)
      focus ((try dsimp only); first | exact ⟨hM.bm, ba1, ba2⟩ | exact hS9)
      clear hK K
      try simp only [Act.put, agT]
      refine rdyH 6 (fun K hK => ?_)
      go_simp
      go_at_call 48
      refine (HBY.out _ hP.ps).mono ?_
      rintro e w1 ⟨rfl, hC⟩
      replace hM := hM.call hC
      replace hP := hP.call hC
      replace hA1 := hA1.call hC
      replace hA2 := hA2.call hC
      replace ba1 := ba1.call hC
      replace ba2 := ba2.call hC
      clear hC
      refine hK.out _ _ ?_ (fun hHeld => ?_)
      focus ((try dsimp only); first | exact ⟨hM.bm, ba1, ba2⟩ | exact hS9)
      clear hK K
      try simp only [Act.put, agT]
      refine rdyH 10 (fun K hK => ?_)
      go_simp
      go_at_call 49
      refine (HTG1.out _ _ _ _ _ _ _ hA1.r3).mono ?_
      rintro e w1 ⟨rfl, hC⟩
      replace hM := hM.call hC
      replace hP := hP.call hC
      replace hA1 := hA1.call hC
      replace hA2 := hA2.call hC
      replace ba1 := ba1.call hC
      replace ba2 := ba2.call hC
      clear hC
      refine hK.out _ _ ?_ (fun hHeld => ?_)
      focus ((try dsimp only); first | exact ⟨hM.bm, ba1, ba2⟩ | exact hS9)
      clear hK K
      try simp only [Act.put, agT]
      refine rdyH 12 (fun K hK => ?_)
      go_simp
      go_at_call 49
      refine (HTG2.out _ _ _ _ _ _ _ hA2.r3).mono ?_
      rintro e w1 ⟨rfl, hC⟩
      replace hM := hM.call hC
      replace hP := hP.call hC
      replace hA1 := hA1.call hC
      replace hA2 := hA2.call hC
      replace ba1 := ba1.call hC
      replace ba2 := ba2.call hC
      clear hC
      refine hK.out _ _ ?_ (fun hHeld => ?_)
      focus ((try dsimp only); first | exact ⟨hM.bm, ba1, ba2⟩ | exact hS9)
      clear hK K
      try simp only [Act.put, agT]
      refine tkH 17 ?_
      try simp only [Act.put, agT]
      refine rdyH 18 (fun K hK => ?_)
      rw [if_pos (by rfl)]
      refine op_storeB (off := 0) (vs := (mrow M (bs (branchV v).1) (bs (byV v)) (bs (value P1 nTag).1) (bs (value P2 nTag).1) (bs vC) B sn (.string (bs d1)) (.string (bs s1)) (.string (bs t1)) (.string (bs h1)) (.int .i64 n1) (.slice o1 F1.length c1) (.slice p1 G1.length q1) (.slice r1 P1.length e1) (.string (bs d2)) (.string (bs s2)) (.string (bs t2)) (.string (bs h2)) (.int .i64 n2) (.slice o2 F2.length c2) (.slice p2 G2.length q2) (.slice r2 P2.length e2))) (cs' := (mrow M (bs (branchV v).1) (bs (byV v)) (bs (value P1 nTag).1) (bs (value P2 nTag).1) (bs vC) B sn (.string (bs d1)) (.string (bs s1)) (.string (bs t1)) (.string (bs h1)) (.int .i64 n1) (.slice o1 F1.length c1) (.slice p1 G1.length q1) (.slice r1 P1.length e1) (.string (bs d2)) (.string (bs s2)) (.string (bs t2)) (.string (bs h2)) (.int .i64 n2) (.slice o2 F2.length c2) (.slice p2 G2.length q2) (.slice r2 P2.length e2))) rfl rfl rfl (by kernel_rfl) hM.b2 (Nat.le_of_ble_eq_true (by kernel_rfl)) (by kernel_rfl) (setAll_whole (by kernel_rfl)) ?_
      intro w9 bz9 hfar9 hsz9 hbel9
      have hB9 := hM.hB.trans (hbel9 _ (by omega))
      have hS9 : Blk w9 w.heap.size 24 #[.string M, .string TG, .int .i64 X, .string RS, .slice mo H.length mc, .string B] ∧ Blk w9 ga1 31 #[.string (bs d1), .string (bs s1), .string (bs t1), .string (bs h1), .int .i64 n1, .slice o1 F1.length c1, .slice p1 G1.length q1, .slice r1 P1.length e1] ∧ Blk w9 ga2 31 #[.string (bs d2), .string (bs s2), .string (bs t2), .string (bs h2), .int .i64 n2, .slice o2 F2.length c2, .slice p2 G2.length q2, .slice r2 P2.length e2] := ⟨(hfar9 _ (by omega)).trans hM.bm, (hfar9 _ (Blk.neT ba1 hM.b2 (by decide))).trans ba1, (hfar9 _ (Blk.neT ba2 hM.b2 (by decide))).trans ba2⟩
      replace hA1 := hA1.store (by omega) hfar9 hsz9
      replace hA2 := hA2.store (by omega) hfar9 hsz9
      refine hK.out _ _ ?_ (fun hHeld => ?_)
      focus ((try dsimp only); first | exact ⟨hM.bm, ba1, ba2⟩ | exact hS9)
      clear hK K
      try simp only [Act.put, agT]
      refine tkH 19 ?_
      try simp only [Act.put, agT]
      refine wpAnyH_done (by kernel_rfl) ?_ _
      go_wp2
      refine bodyPost_ret (results_ct rfl rfl rfl Tryz.underlying37 (by kernel_rfl) bz9) rfl ?_
      refine ⟨(mrow M (bs (branchV v).1) (bs (byV v)) (bs (value P1 nTag).1) (bs (value P2 nTag).1) (bs vC) B sn (.string (bs d1)) (.string (bs s1)) (.string (bs t1)) (.string (bs h1)) (.int .i64 n1) (.slice o1 F1.length c1) (.slice p1 G1.length q1) (.slice r1 P1.length e1) (.string (bs d2)) (.string (bs s2)) (.string (bs t2)) (.string (bs h2)) (.int .i64 n2) (.slice o2 F2.length c2) (.slice p2 G2.length q2) (.slice r2 P2.length e2)), congrArg (fun x : Rqt × Int => Ending.returned (.tuple #[.agg (mrow M (bs (branchV v).1) (bs (byV v)) (bs (value P1 nTag).1) (bs (value P2 nTag).1) (bs vC) B sn (.string (bs d1)) (.string (bs s1)) (.string (bs t1)) (.string (bs h1)) (.int .i64 n1) (.slice o1 F1.length c1) (.slice p1 G1.length q1) (.slice r1 P1.length e1) (.string (bs d2)) (.string (bs s2)) (.string (bs t2)) (.string (bs h2)) (.int .i64 n2) (.slice o2 F2.length c2) (.slice p2 G2.length q2) (.slice r2 P2.length e2)), .int .i64 x.2])) HF.out.symm, ?_, by kernel_rfl, by kernel_rfl, hB9⟩
      rw [HF.out]
      exact mrow_rq (r := ⟨mg.method, uri0, (branchV v).1, byV v, ⟨d1, ⟨s1, t1, h1, n1, F1, G1⟩, P1⟩, ⟨d2, ⟨s2, t2, h2, n2, F2, G2⟩, P2⟩, tagA ⟨d1, ⟨s1, t1, h1, n1, F1, G1⟩, P1⟩, tagA ⟨d2, ⟨s2, t2, h2, n2, F2, G2⟩, P2⟩, vC, sn, -1, [], [], [], [], [], [], [], mg.body⟩) HMM.out HMB.out rfl rfl rfl rfl rfl rfl rfl rfl rfl hA1 hA2
end Go.Proofs.YtgkilllbkljibaaGreatDoor
