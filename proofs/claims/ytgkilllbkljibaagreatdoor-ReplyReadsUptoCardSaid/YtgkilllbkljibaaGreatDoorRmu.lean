/- Contracts of Go functions, and plain laws. No condition but those told. -/
import Derived.Test.YtgkilllbkljibaaGreatDoorRmA
import Derived.Deep.RegionHeld3
set_option linter.unusedSimpArgs false
set_option linter.unusedVariables false
set_option maxRecDepth 100000
namespace Go.Proofs.YtgkilllbkljibaaGreatDoor
open Go.RowKit Go.Sort
set_option maxRecDepth 100000 in
set_option maxHeartbeats 12800000 in
theorem must_c (M TG RS B : ByteArray) (X : Int) (u : Value) (H : List Hdr) (w : World) (hm : Ml w) (hu : RHdrs w u H) (hb : ∀ h ∈ H, h.name.length ≤ 1048576 ∧ h.value.length ≤ 1048576) (hH : H.length ≤ 1048576) :
  Calls Tryz.prog 19 #[.agg #[.string M, .string TG, .int .i64 X, .string RS, u, .string B]] w (MPost ⟨us M, us TG, X, us RS, H, us B⟩ w) := by
 have HM := κ hm
 have HU := κ hu
 obtain ⟨mo, mc, rfl, _, _⟩ := hu.form
 have hb' : ∀ h ∈ H, h.name.length ≤ 140737488355328 := fun h hh => by have := (hb h hh).1; omega
 have hH' : H.length ≤ 4294967280 := by omega
 have HBD := κ (fun n => one_bdR 1048576 H n (fun x hx => (hb x hx).2))
 have HL := κ (fun (wx : World) (h : Below w.heap.size w wx) => list_c M TG RS B X _ H wx (hm.below h) (hu.below h (ρ _)) hb hH)
 have HO1 := κ (fun (wx : World) (h : Below w.heap.size w wx) => one_c' M TG RS B X _ H ⟨#[70, 114, 111, 109]⟩ (by decide) wx (hu.below h (ρ _)) hb' hH')
 rw [show us ⟨#[70, 114, 111, 109]⟩ = nFrom from rfl] at HO1
 have HO2 := κ (fun (wx : World) (h : Below w.heap.size w wx) => one_c' M TG RS B X _ H ⟨#[84, 111]⟩ (by decide) wx (hu.below h (ρ _)) hb' hH')
 rw [show us ⟨#[84, 111]⟩ = nTo from rfl] at HO2
 have HOC := κ (fun (wx : World) (h : Below w.heap.size w wx) => one_c' M TG RS B X _ H ⟨#[67, 97, 108, 108, 45, 73, 68]⟩ (by decide) wx (hu.below h (ρ _)) hb' hH')
 rw [show us ⟨#[67, 97, 108, 108, 45, 73, 68]⟩ = nCall from rfl] at HOC
 have HOQ := κ (fun (wx : World) (h : Below w.heap.size w wx) => one_c' M TG RS B X _ H ⟨#[67, 83, 101, 113]⟩ (by decide) wx (hu.below h (ρ _)) hb' hH')
 rw [show us ⟨#[67, 83, 101, 113]⟩ = nCseq from rfl] at HOQ
 obtain ⟨⟨v1, g1⟩, e1⟩ : ∃ x, x = oneS H nFrom := ⟨_, rfl⟩
 rw [← e1] at HO1
 dsimp only at HO1
 have l1 : v1.length ≤ 1048576 := by have := HBD.out nFrom; rw [← e1] at this; exact this
 have HE1 := κ e1
 clear e1
 obtain ⟨⟨v2, g2⟩, e2⟩ : ∃ x, x = oneS H nTo := ⟨_, rfl⟩
 rw [← e2] at HO2
 dsimp only at HO2
 have l2 : v2.length ≤ 1048576 := by have := HBD.out nTo; rw [← e2] at this; exact this
 have HE2 := κ e2
 clear e2
 obtain ⟨⟨vC, gC⟩, eC⟩ : ∃ x, x = oneS H nCall := ⟨_, rfl⟩
 rw [← eC] at HOC
 dsimp only at HOC
 have lC : vC.length ≤ 1048576 := by have := HBD.out nCall; rw [← eC] at this; exact this
 have HEC := κ eC
 clear eC
 obtain ⟨⟨vQ, gQ⟩, eQ⟩ : ∃ x, x = oneS H nCseq := ⟨_, rfl⟩
 rw [← eQ] at HOQ
 dsimp only at HOQ
 have lQ : vQ.length ≤ 1048576 := by have := HBD.out nCseq; rw [← eQ] at this; exact this
 have HEQ := κ eQ
 clear eQ
 have HA1 := κ (fun (wx : World) (h : Below w.heap.size w wx) => parseA_c (bs v1) (by rw [size_bs]; omega) wx (hm.below h))
 rw [us_bs] at HA1
 unfold AdrPost at HA1
 have hab1 := parseA_bdR v1
 obtain ⟨⟨⟨d1, ⟨s1, t1, h1, n1, F1, G1⟩, P1⟩, z1⟩, hy1⟩ : ∃ y, y = parseA v1 := ⟨_, rfl⟩
 rw [← hy1] at HA1 hab1
 dsimp only at HA1 hab1
 unfold sv at HA1
 have HY1 := κ hy1
 clear hy1
 have hP1 : ∀ p ∈ P1, p.name.length ≤ 4294967280 := fun p hp => by have := (hab1.2.2 p hp).1; omega
 have HTG1 := κ (fun (wx : World) o1 o2 o3 c1 c2 c3 (h : RPrms wx (.slice o3 P1.length c3) P1) => tagA_c (bs d1) (bs s1) (bs t1) (bs h1) n1 (.slice o1 F1.length c1) (.slice o2 G1.length c2) (.slice o3 P1.length c3) F1 G1 P1 wx h hP1 ⟨_, _, rfl⟩ ⟨_, _, rfl⟩)
 clear hab1 hP1
 have HA2 := κ (fun (wx : World) (h : Below w.heap.size w wx) => parseA_c (bs v2) (by rw [size_bs]; omega) wx (hm.below h))
 rw [us_bs] at HA2
 unfold AdrPost at HA2
 have hab2 := parseA_bdR v2
 obtain ⟨⟨⟨d2, ⟨s2, t2, h2, n2, F2, G2⟩, P2⟩, z2⟩, hy2⟩ : ∃ y, y = parseA v2 := ⟨_, rfl⟩
 rw [← hy2] at HA2 hab2
 dsimp only at HA2 hab2
 unfold sv at HA2
 have HY2 := κ hy2
 clear hy2
 have hP2 : ∀ p ∈ P2, p.name.length ≤ 4294967280 := fun p hp => by have := (hab2.2.2 p hp).1; omega
 have HTG2 := κ (fun (wx : World) o1 o2 o3 c1 c2 c3 (h : RPrms wx (.slice o3 P2.length c3) P2) => tagA_c (bs d2) (bs s2) (bs t2) (bs h2) n2 (.slice o1 F2.length c1) (.slice o2 G2.length c2) (.slice o3 P2.length c3) F2 G2 P2 wx h hP2 ⟨_, _, rfl⟩ ⟨_, _, rfl⟩)
 clear hab2 hP2
 have HCL := κ (fun wx => call_c (bs vC) (by rw [size_bs]; omega) wx)
 rw [us_bs] at HCL
 have HSQ := κ (fun (wx : World) (h : Below w.heap.size w wx) => seq_c (bs vQ) (by rw [size_bs]; omega) wx (hm.below h))
 rw [us_bs] at HSQ
 unfold SeqPost at HSQ
 obtain ⟨⟨sn, sm, sc⟩, hsq⟩ : ∃ y, y = seqP vQ := ⟨_, rfl⟩
 rw [← hsq] at HSQ
 dsimp only at HSQ
 have HSE := κ hsq
 clear hsq
 obtain ⟨kC, hkC⟩ : ∃ x, x = callS vC := ⟨_, rfl⟩
 rw [← hkC] at HCL
 have HKC := κ hkC
 clear hkC
 have HLV := κ (listV_bdR (allS H nVia))
 obtain ⟨⟨hl, lc⟩, hLv⟩ : ∃ x, x = listV (allS H nVia) := ⟨_, rfl⟩
 rw [← hLv] at HL HLV
 dsimp only at HL HLV
 obtain ⟨mg, hmg⟩ : ∃ x : Mg, x = ⟨us M, us TG, X, us RS, H, us B⟩ := ⟨_, rfl⟩
 rw [← hmg]
 have HMM : Hid (mg.method = us M) := κ (by rw [hmg])
 have HMB : Hid (mg.body = us B) := κ (by rw [hmg])
 have HMH : Hid (mg.hdrs = H) := κ (by rw [hmg])
 clear hmg hb hb' hH' hm HBD hu
 by_cases hz : M.size = 0
 ·obtain rfl := eq_empty hz
  have HR : (mustS mg).2 = 1 := by rw [mustS_1 (by rw [HMM.out]; rfl)]
  go_enter Tryz.func19, Tryz.ntmps19
  go_upto_region 1 with fail
  have hM0 := (Blk.new w 24 #[.string ByteArray.empty, .string TG, .int .i64 X, .string RS, .slice mo H.length mc, .string B]).alloc (.cells zrow 37)
  have p0 : ((w.alloc (.cells #[.string ByteArray.empty, .string TG, .int .i64 X, .string RS, .slice mo H.length mc, .string B] 24)).alloc (.cells #[(.string ⟨#[]⟩), (.string ⟨#[]⟩), (.string ⟨#[]⟩), (.string ⟨#[]⟩), (.int .i64 0), (.slice none 0 0), (.slice none 0 0), (.string ⟨#[]⟩), (.string ⟨#[]⟩), (.string ⟨#[]⟩), (.string ⟨#[]⟩), (.string ⟨#[]⟩), (.string ⟨#[]⟩), (.int .i64 0), (.slice none 0 0), (.slice none 0 0), (.slice none 0 0), (.string ⟨#[]⟩), (.string ⟨#[]⟩), (.string ⟨#[]⟩), (.string ⟨#[]⟩), (.int .i64 0), (.slice none 0 0), (.slice none 0 0), (.slice none 0 0), (.string ⟨#[]⟩), (.string ⟨#[]⟩), (.string ⟨#[]⟩), (.int .i64 0), (.int .i64 0), (.string ⟨#[]⟩), (.slice none 0 0), (.slice none 0 0), (.slice none 0 0), (.slice none 0 0), (.string ⟨#[]⟩), (.string ⟨#[]⟩), (.string ⟨#[]⟩)] 37)).cell? ⟨w.heap.size, 0, none⟩ = some (.string ByteArray.empty) := boxedCell hM0 0
  have p5 : ((w.alloc (.cells #[.string ByteArray.empty, .string TG, .int .i64 X, .string RS, .slice mo H.length mc, .string B] 24)).alloc (.cells #[(.string ⟨#[]⟩), (.string ⟨#[]⟩), (.string ⟨#[]⟩), (.string ⟨#[]⟩), (.int .i64 0), (.slice none 0 0), (.slice none 0 0), (.string ⟨#[]⟩), (.string ⟨#[]⟩), (.string ⟨#[]⟩), (.string ⟨#[]⟩), (.string ⟨#[]⟩), (.string ⟨#[]⟩), (.int .i64 0), (.slice none 0 0), (.slice none 0 0), (.slice none 0 0), (.string ⟨#[]⟩), (.string ⟨#[]⟩), (.string ⟨#[]⟩), (.string ⟨#[]⟩), (.int .i64 0), (.slice none 0 0), (.slice none 0 0), (.slice none 0 0), (.string ⟨#[]⟩), (.string ⟨#[]⟩), (.string ⟨#[]⟩), (.int .i64 0), (.int .i64 0), (.string ⟨#[]⟩), (.slice none 0 0), (.slice none 0 0), (.slice none 0 0), (.slice none 0 0), (.string ⟨#[]⟩), (.string ⟨#[]⟩), (.string ⟨#[]⟩)] 37)).cell? ⟨w.heap.size, 5, none⟩ = some (.string B) := boxedCell hM0 5
  go_wp2_with (with_reducible refine holdStore 37 rfl ?_)
  unfold Hold
  refine wpList_storeNew (vs := (mrow ByteArray.empty ⟨#[]⟩ ⟨#[]⟩ ⟨#[]⟩ ⟨#[]⟩ ⟨#[]⟩ B 0 (.string ⟨#[]⟩) (.string ⟨#[]⟩) (.string ⟨#[]⟩) (.string ⟨#[]⟩) (.int .i64 0) (.slice none 0 0) (.slice none 0 0) (.slice none 0 0) (.string ⟨#[]⟩) (.string ⟨#[]⟩) (.string ⟨#[]⟩) (.string ⟨#[]⟩) (.int .i64 0) (.slice none 0 0) (.slice none 0 0) (.slice none 0 0))) rfl rfl (by rw [World.size_alloc, World.size_alloc]; rfl) rfl (by kernel_rfl) (by kernel_rfl) (by kernel_rfl) ?_
  refine wpList_to (MSt w #[.string ByteArray.empty, .string TG, .int .i64 X, .string RS, .slice mo H.length mc, .string B] (mrow ByteArray.empty ⟨#[]⟩ ⟨#[]⟩ ⟨#[]⟩ ⟨#[]⟩ ⟨#[]⟩ B 0 (.string ⟨#[]⟩) (.string ⟨#[]⟩) (.string ⟨#[]⟩) (.string ⟨#[]⟩) (.int .i64 0) (.slice none 0 0) (.slice none 0 0) (.slice none 0 0) (.string ⟨#[]⟩) (.string ⟨#[]⟩) (.string ⟨#[]⟩) (.string ⟨#[]⟩) (.int .i64 0) (.slice none 0 0) (.slice none 0 0) (.slice none 0 0))) (MSt.start w _ _) ?_
  clear hM0 p0 p5
  intro wr hM
  have p0 : wr.cell? ⟨w.heap.size, 0, none⟩ = some (.string ByteArray.empty) := boxedCell hM.bm 0
  go_wp2_with (first | ((with_reducible refine holdLoad 37 rfl ?_); unfold Hold; refine wpList_loadB rfl rfl rfl Tryz.underlying37 (by kernel_rfl) hM.br (whole _) ?_) | ((with_reducible refine holdStore 37 rfl ?_); unfold Hold; refine wpList_storeB (vs := (mrow ByteArray.empty ⟨#[]⟩ ⟨#[]⟩ ⟨#[]⟩ ⟨#[]⟩ ⟨#[]⟩ B 0 (.string ⟨#[]⟩) (.string ⟨#[]⟩) (.string ⟨#[]⟩) (.string ⟨#[]⟩) (.int .i64 0) (.slice none 0 0) (.slice none 0 0) (.slice none 0 0) (.string ⟨#[]⟩) (.string ⟨#[]⟩) (.string ⟨#[]⟩) (.string ⟨#[]⟩) (.int .i64 0) (.slice none 0 0) (.slice none 0 0) (.slice none 0 0))) rfl rfl rfl rfl (by kernel_rfl) hM.b2 (Nat.le_of_eq (by kernel_rfl)) (by kernel_rfl) (setAll_whole (by kernel_rfl)) ?_; intro w9 bz9 hfar9 hsz9 hbel9))
  refine bodyPost_ret (results_ct rfl rfl rfl Tryz.underlying37 (by kernel_rfl) bz9) rfl ?_
  exact mEnd HR (by decide) (by kernel_rfl) (by kernel_rfl) (hM.hB.trans (hbel9 _ (by omega)))
 ·have pE := ne_empty hz
  have pF := isEmpty_f hz
  have hne := κ (us_neR hz)
  clear hz
  go_enter Tryz.func19, Tryz.ntmps19
  go_upto_region 1 with fail
  have hM0 := (Blk.new w 24 #[.string M, .string TG, .int .i64 X, .string RS, .slice mo H.length mc, .string B]).alloc (.cells zrow 37)
  have p0 : ((w.alloc (.cells #[.string M, .string TG, .int .i64 X, .string RS, .slice mo H.length mc, .string B] 24)).alloc (.cells #[(.string ⟨#[]⟩), (.string ⟨#[]⟩), (.string ⟨#[]⟩), (.string ⟨#[]⟩), (.int .i64 0), (.slice none 0 0), (.slice none 0 0), (.string ⟨#[]⟩), (.string ⟨#[]⟩), (.string ⟨#[]⟩), (.string ⟨#[]⟩), (.string ⟨#[]⟩), (.string ⟨#[]⟩), (.int .i64 0), (.slice none 0 0), (.slice none 0 0), (.slice none 0 0), (.string ⟨#[]⟩), (.string ⟨#[]⟩), (.string ⟨#[]⟩), (.string ⟨#[]⟩), (.int .i64 0), (.slice none 0 0), (.slice none 0 0), (.slice none 0 0), (.string ⟨#[]⟩), (.string ⟨#[]⟩), (.string ⟨#[]⟩), (.int .i64 0), (.int .i64 0), (.string ⟨#[]⟩), (.slice none 0 0), (.slice none 0 0), (.slice none 0 0), (.slice none 0 0), (.string ⟨#[]⟩), (.string ⟨#[]⟩), (.string ⟨#[]⟩)] 37)).cell? ⟨w.heap.size, 0, none⟩ = some (.string M) := boxedCell hM0 0
  have p5 : ((w.alloc (.cells #[.string M, .string TG, .int .i64 X, .string RS, .slice mo H.length mc, .string B] 24)).alloc (.cells #[(.string ⟨#[]⟩), (.string ⟨#[]⟩), (.string ⟨#[]⟩), (.string ⟨#[]⟩), (.int .i64 0), (.slice none 0 0), (.slice none 0 0), (.string ⟨#[]⟩), (.string ⟨#[]⟩), (.string ⟨#[]⟩), (.string ⟨#[]⟩), (.string ⟨#[]⟩), (.string ⟨#[]⟩), (.int .i64 0), (.slice none 0 0), (.slice none 0 0), (.slice none 0 0), (.string ⟨#[]⟩), (.string ⟨#[]⟩), (.string ⟨#[]⟩), (.string ⟨#[]⟩), (.int .i64 0), (.slice none 0 0), (.slice none 0 0), (.slice none 0 0), (.string ⟨#[]⟩), (.string ⟨#[]⟩), (.string ⟨#[]⟩), (.int .i64 0), (.int .i64 0), (.string ⟨#[]⟩), (.slice none 0 0), (.slice none 0 0), (.slice none 0 0), (.slice none 0 0), (.string ⟨#[]⟩), (.string ⟨#[]⟩), (.string ⟨#[]⟩)] 37)).cell? ⟨w.heap.size, 5, none⟩ = some (.string B) := boxedCell hM0 5
  go_wp2_with (with_reducible refine holdStore 37 rfl ?_)
  unfold Hold
  refine wpList_storeNew (vs := (mrow M ⟨#[]⟩ ⟨#[]⟩ ⟨#[]⟩ ⟨#[]⟩ ⟨#[]⟩ B 0 (.string ⟨#[]⟩) (.string ⟨#[]⟩) (.string ⟨#[]⟩) (.string ⟨#[]⟩) (.int .i64 0) (.slice none 0 0) (.slice none 0 0) (.slice none 0 0) (.string ⟨#[]⟩) (.string ⟨#[]⟩) (.string ⟨#[]⟩) (.string ⟨#[]⟩) (.int .i64 0) (.slice none 0 0) (.slice none 0 0) (.slice none 0 0))) rfl rfl (by rw [World.size_alloc, World.size_alloc]; rfl) rfl (by kernel_rfl) (by kernel_rfl) (by kernel_rfl) ?_
  refine wpList_to (MSt w #[.string M, .string TG, .int .i64 X, .string RS, .slice mo H.length mc, .string B] (mrow M ⟨#[]⟩ ⟨#[]⟩ ⟨#[]⟩ ⟨#[]⟩ ⟨#[]⟩ B 0 (.string ⟨#[]⟩) (.string ⟨#[]⟩) (.string ⟨#[]⟩) (.string ⟨#[]⟩) (.int .i64 0) (.slice none 0 0) (.slice none 0 0) (.slice none 0 0) (.string ⟨#[]⟩) (.string ⟨#[]⟩) (.string ⟨#[]⟩) (.string ⟨#[]⟩) (.int .i64 0) (.slice none 0 0) (.slice none 0 0) (.slice none 0 0))) (MSt.start w _ _) ?_
  clear hM0 p0 p5
  intro wr hM
  have p0 : wr.cell? ⟨w.heap.size, 0, none⟩ = some (.string M) := boxedCell hM.bm 0
  go_upto_region 5 with (first | ((with_reducible refine holdLoad 24 rfl ?_); unfold Hold; refine wpList_loadB rfl rfl rfl Tryz.underlying24 (by kernel_rfl) hM.bm (whole _) ?_) | (go_at_call 65; refine (HL.out _ hM.hB).mono ?_; rintro e w1 ⟨vl, rfl, hV, hF, hC⟩; have hfr := hF.mono (Nat.succ_le_of_lt hM.lt); replace hM := hM.call hC; clear p0 hC hF))
  by_cases hlc : lc = 0
  rotate_left
  ·have tne : (lc != 0) = true := by simpa using hlc
   have HR : (mustS mg).2 = lc := mustS_2 (by rw [HMM.out]; exact hne.out) (by rw [HMH.out]; exact hLv) hlc
   have HC := κ hlc
   clear hlc
   go_wp2_with (first | ((with_reducible refine holdLoad 37 rfl ?_); unfold Hold; refine wpList_loadB rfl rfl rfl Tryz.underlying37 (by kernel_rfl) hM.br (whole _) ?_) | ((with_reducible refine holdStore 37 rfl ?_); unfold Hold; refine wpList_storeB (vs := (mrow M ⟨#[]⟩ ⟨#[]⟩ ⟨#[]⟩ ⟨#[]⟩ ⟨#[]⟩ B 0 (.string ⟨#[]⟩) (.string ⟨#[]⟩) (.string ⟨#[]⟩) (.string ⟨#[]⟩) (.int .i64 0) (.slice none 0 0) (.slice none 0 0) (.slice none 0 0) (.string ⟨#[]⟩) (.string ⟨#[]⟩) (.string ⟨#[]⟩) (.string ⟨#[]⟩) (.int .i64 0) (.slice none 0 0) (.slice none 0 0) (.slice none 0 0))) rfl rfl rfl rfl (by kernel_rfl) hM.b2 (Nat.le_of_eq (by kernel_rfl)) (by kernel_rfl) (setAll_whole (by kernel_rfl)) ?_; intro w9 bz9 hfar9 hsz9 hbel9))
   refine bodyPost_ret (results_ct rfl rfl rfl Tryz.underlying37 (by kernel_rfl) bz9) rfl ?_
   exact mEnd HR HC.out (by kernel_rfl) (by kernel_rfl) (hM.hB.trans (hbel9 _ (by omega)))
  ·subst hlc
   obtain ⟨v, r, hv, hck⟩ := HLV.out rfl
   subst hv
   obtain ⟨y1, y2, y3, y4⟩ := hop_bdR v hck
   obtain ⟨b, off, cap, ao, c, rfl, hgb, hP⟩ := hV.head0 hfr
   clear hV hfr hck HLV
   have HBR := κ (fun (wx : World) (h : RPrms wx (.slice ao v.ps.length c) v.ps) => branchV_c (bs v.host) v.port _ v.ps wx h (fun p hp => by have := (y4 p hp).1; omega) (Nat.le_trans (value_leR 64 nBranch v.ps (fun p hp => (y4 p hp).2)) (by decide)))
   have HBY := κ (fun (wx : World) (h : RPrms wx (.slice ao v.ps.length c) v.ps) => byV_c (bs v.host) v.port _ v.ps (by rw [size_bs]; omega) (by omega) (by omega) wx h)
   rw [us_bs] at HBR HBY
   rw [show (⟨v.host, v.port, v.ps⟩ : Hop) = v from rfl] at HBR HBY
   have HLE := κ hLv
   clear hLv y1 y2 y3 y4
   obtain ⟨x0, x1, x2⟩ : _ ∧ _ ∧ _ := ⟨hP.c0, hP.c1, hP.c2⟩
   obtain ⟨bk, hbk⟩ : ∃ x, x = (branchV v).2 := ⟨_, rfl⟩
   rw [← hbk] at HBR
   have HBK := κ hbk
   clear hbk
   go_upto_region 9 with (first | (go_at_call 66; refine (HBR.out _ hP.ps).mono ?_; rintro e w1 ⟨rfl, hC⟩; replace hM := hM.call hC; replace hP := hP.call hC; clear x0 x1 x2 hC) | ((with_reducible refine holdStore 9 rfl ?_); unfold Hold; refine wpList_storeC (off := 7) (v := (.string (bs (branchV v).1))) (cs' := (mrow M (bs (branchV v).1) ⟨#[]⟩ ⟨#[]⟩ ⟨#[]⟩ ⟨#[]⟩ B 0 (.string ⟨#[]⟩) (.string ⟨#[]⟩) (.string ⟨#[]⟩) (.string ⟨#[]⟩) (.int .i64 0) (.slice none 0 0) (.slice none 0 0) (.slice none 0 0) (.string ⟨#[]⟩) (.string ⟨#[]⟩) (.string ⟨#[]⟩) (.string ⟨#[]⟩) (.int .i64 0) (.slice none 0 0) (.slice none 0 0) (.slice none 0 0))) rfl rfl rfl rfl (by kernel_rfl) hM.br (Nat.le_of_ble_eq_true (by kernel_rfl)) (by kernel_rfl) (by kernel_rfl) (by kernel_rfl) ?_; intro w8 b8 hf8 hs8 hl8; replace hP := hP.store hM.br (by kernel_rfl) (by omega) hf8 hs8; replace hM := hM.store b8 hf8 hl8; clear b8 hf8 hs8 hl8))
   cases bk with
   | false =>
    have HR : (mustS mg).2 = 70 := mustS_3 (by rw [HMM.out]; exact hne.out) (by rw [HMH.out]; exact HLE.out) HBK.out.symm
    go_wp2_with (first | ((with_reducible refine holdLoad 37 rfl ?_); unfold Hold; refine wpList_loadB rfl rfl rfl Tryz.underlying37 (by kernel_rfl) hM.br (whole _) ?_) | ((with_reducible refine holdStore 37 rfl ?_); unfold Hold; refine wpList_storeB (vs := (mrow M (bs (branchV v).1) ⟨#[]⟩ ⟨#[]⟩ ⟨#[]⟩ ⟨#[]⟩ B 0 (.string ⟨#[]⟩) (.string ⟨#[]⟩) (.string ⟨#[]⟩) (.string ⟨#[]⟩) (.int .i64 0) (.slice none 0 0) (.slice none 0 0) (.slice none 0 0) (.string ⟨#[]⟩) (.string ⟨#[]⟩) (.string ⟨#[]⟩) (.string ⟨#[]⟩) (.int .i64 0) (.slice none 0 0) (.slice none 0 0) (.slice none 0 0))) rfl rfl rfl rfl (by kernel_rfl) hM.b2 (Nat.le_of_eq (by kernel_rfl)) (by kernel_rfl) (setAll_whole (by kernel_rfl)) ?_; intro w9 bz9 hfar9 hsz9 hbel9))
    refine bodyPost_ret (results_ct rfl rfl rfl Tryz.underlying37 (by kernel_rfl) bz9) rfl ?_
    exact mEnd HR (by decide) (by kernel_rfl) (by kernel_rfl) (hM.hB.trans (hbel9 _ (by omega)))
   | true =>
    have HR := κ (mustS_4 (m := mg) (by rw [HMM.out]; exact hne.out) (by rw [HMH.out]; exact HLE.out) HBK.out.symm)
    obtain ⟨x0, x1, x2⟩ : _ ∧ _ ∧ _ := ⟨hP.c0, hP.c1, hP.c2⟩
    clear HBR HBK HLE HL hne
    go_wp2_with (first | (go_at_call 67; refine (HBY.out _ hP.ps).mono ?_; rintro e w1 ⟨rfl, hC⟩; replace hM := hM.call hC; clear x0 x1 x2 hC hP) | ((with_reducible refine holdStore 9 rfl ?_); unfold Hold; refine wpList_storeC (off := 8) (v := (.string (bs (byV v)))) (cs' := (mrow M (bs (branchV v).1) (bs (byV v)) ⟨#[]⟩ ⟨#[]⟩ ⟨#[]⟩ B 0 (.string ⟨#[]⟩) (.string ⟨#[]⟩) (.string ⟨#[]⟩) (.string ⟨#[]⟩) (.int .i64 0) (.slice none 0 0) (.slice none 0 0) (.slice none 0 0) (.string ⟨#[]⟩) (.string ⟨#[]⟩) (.string ⟨#[]⟩) (.string ⟨#[]⟩) (.int .i64 0) (.slice none 0 0) (.slice none 0 0) (.slice none 0 0))) rfl rfl rfl rfl (by kernel_rfl) hM.br (Nat.le_of_ble_eq_true (by kernel_rfl)) (by kernel_rfl) (by kernel_rfl) (by kernel_rfl) ?_; intro w8 b8 hf8 hs8 hl8; replace hM := hM.store b8 hf8 hl8; clear b8 hf8 hs8 hl8))
    have hM8 := hM
    have bp := Blk.new w8 109 #[.string ⟨#[70, 114, 111, 109]⟩, .pointer (some ⟨w.heap.size + 1 + 1, 9, none⟩), .string ⟨#[84, 111]⟩, .pointer (some ⟨w.heap.size + 1 + 1, 17, none⟩)]
    replace hM := hM.alloc (.cells #[.string ⟨#[70, 114, 111, 109]⟩, .pointer (some ⟨w.heap.size + 1 + 1, 9, none⟩), .string ⟨#[84, 111]⟩, .pointer (some ⟨w.heap.size + 1 + 1, 17, none⟩)] 109)
    go_loopw [58] (fun i wr => (i = .int .i64 0 ∧ MSt w #[.string M, .string TG, .int .i64 X, .string RS, .slice mo H.length mc, .string B] (mrow M (bs (branchV v).1) (bs (byV v)) ⟨#[]⟩ ⟨#[]⟩ ⟨#[]⟩ B 0 (.string ⟨#[]⟩) (.string ⟨#[]⟩) (.string ⟨#[]⟩) (.string ⟨#[]⟩) (.int .i64 0) (.slice none 0 0) (.slice none 0 0) (.slice none 0 0) (.string ⟨#[]⟩) (.string ⟨#[]⟩) (.string ⟨#[]⟩) (.string ⟨#[]⟩) (.int .i64 0) (.slice none 0 0) (.slice none 0 0) (.slice none 0 0)) wr ∧ Blk wr w8.heap.size 109 #[.string ⟨#[70, 114, 111, 109]⟩, .pointer (some ⟨w.heap.size + 1 + 1, 9, none⟩), .string ⟨#[84, 111]⟩, .pointer (some ⟨w.heap.size + 1 + 1, 17, none⟩)]) ∨ (i = .int .i64 1 ∧ ∃ o1 c1 p1 q1 r1 e1, adrOf H nFrom = (⟨d1, ⟨s1, t1, h1, n1, F1, G1⟩, P1⟩, 0) ∧ MSt w #[.string M, .string TG, .int .i64 X, .string RS, .slice mo H.length mc, .string B] (mrow M (bs (branchV v).1) (bs (byV v)) ⟨#[]⟩ ⟨#[]⟩ ⟨#[]⟩ B 0 (.string (bs d1)) (.string (bs s1)) (.string (bs t1)) (.string (bs h1)) (.int .i64 n1) (.slice o1 F1.length c1) (.slice p1 G1.length q1) (.slice r1 P1.length e1) (.string ⟨#[]⟩) (.string ⟨#[]⟩) (.string ⟨#[]⟩) (.string ⟨#[]⟩) (.int .i64 0) (.slice none 0 0) (.slice none 0 0) (.slice none 0 0)) wr ∧ Blk wr w8.heap.size 109 #[.string ⟨#[70, 114, 111, 109]⟩, .pointer (some ⟨w.heap.size + 1 + 1, 9, none⟩), .string ⟨#[84, 111]⟩, .pointer (some ⟨w.heap.size + 1 + 1, 17, none⟩)] ∧ Ad3 (w.heap.size + 1 + 1 + 1) wr (.slice o1 F1.length c1) (.slice p1 G1.length q1) (.slice r1 P1.length e1) ⟨d1, ⟨s1, t1, h1, n1, F1, G1⟩, P1⟩) ∨ (i = .int .i64 2 ∧ ∃ o1 c1 p1 q1 r1 e1 o2 c2 p2 q2 r2 e2, adrOf H nFrom = (⟨d1, ⟨s1, t1, h1, n1, F1, G1⟩, P1⟩, 0) ∧ adrOf H nTo = (⟨d2, ⟨s2, t2, h2, n2, F2, G2⟩, P2⟩, 0) ∧ MSt w #[.string M, .string TG, .int .i64 X, .string RS, .slice mo H.length mc, .string B] (mrow M (bs (branchV v).1) (bs (byV v)) ⟨#[]⟩ ⟨#[]⟩ ⟨#[]⟩ B 0 (.string (bs d1)) (.string (bs s1)) (.string (bs t1)) (.string (bs h1)) (.int .i64 n1) (.slice o1 F1.length c1) (.slice p1 G1.length q1) (.slice r1 P1.length e1) (.string (bs d2)) (.string (bs s2)) (.string (bs t2)) (.string (bs h2)) (.int .i64 n2) (.slice o2 F2.length c2) (.slice p2 G2.length q2) (.slice r2 P2.length e2)) wr ∧ Ad3 (w.heap.size + 1 + 1 + 1) wr (.slice o1 F1.length c1) (.slice p1 G1.length q1) (.slice r1 P1.length e1) ⟨d1, ⟨s1, t1, h1, n1, F1, G1⟩, P1⟩ ∧ Ad3 (w.heap.size + 1 + 1 + 1) wr (.slice o2 F2.length c2) (.slice p2 G2.length q2) (.slice r2 P2.length e2) ⟨d2, ⟨s2, t2, h2, n2, F2, G2⟩, P2⟩)) (fun i _ => 2 - (intOf i).toNat)
    case atStart => exact .inl ⟨rfl, hM, bp⟩
    case round =>
     rcases hrel with ⟨rfl, hM, bp⟩ | ⟨rfl, o1, c1, p1, q1, r1, e1, hAF, hM, bp, hA1⟩ | ⟨rfl, o1, c1, p1, q1, r1, e1, o2, c2, p2, q2, r2, e2, hAF, hAT, hM, hA1, hA2⟩
     ·have hMr := hM
      have x0 : wr.cell? ⟨w8.heap.size, 0, none⟩ = some (.string ⟨#[70, 114, 111, 109]⟩) := boxedCell bp 0
      have x1 : wr.cell? ⟨w8.heap.size, 1, none⟩ = some (.pointer (some ⟨w.heap.size + 1 + 1, 9, none⟩)) := boxedCell bp 1
      go_upto_region 15 with ((with_reducible refine holdStore 109 rfl ?_); unfold Hold; refine wpList_storeNew (vs := #[.string ⟨#[70, 114, 111, 109]⟩, .pointer (some ⟨w.heap.size + 1 + 1, 9, none⟩)]) rfl rfl rfl rfl (by kernel_rfl) (by kernel_rfl) (by kernel_rfl) ?_; refine wpList_to (fun x => MSt w #[.string M, .string TG, .int .i64 X, .string RS, .slice mo H.length mc, .string B] (mrow M (bs (branchV v).1) (bs (byV v)) ⟨#[]⟩ ⟨#[]⟩ ⟨#[]⟩ B 0 (.string ⟨#[]⟩) (.string ⟨#[]⟩) (.string ⟨#[]⟩) (.string ⟨#[]⟩) (.int .i64 0) (.slice none 0 0) (.slice none 0 0) (.slice none 0 0) (.string ⟨#[]⟩) (.string ⟨#[]⟩) (.string ⟨#[]⟩) (.string ⟨#[]⟩) (.int .i64 0) (.slice none 0 0) (.slice none 0 0) (.slice none 0 0)) x ∧ Blk x w8.heap.size 109 #[.string ⟨#[70, 114, 111, 109]⟩, .pointer (some ⟨w.heap.size + 1 + 1, 9, none⟩), .string ⟨#[84, 111]⟩, .pointer (some ⟨w.heap.size + 1 + 1, 17, none⟩)] ∧ Blk x wr.heap.size 109 #[.string ⟨#[70, 114, 111, 109]⟩, .pointer (some ⟨w.heap.size + 1 + 1, 9, none⟩)]) ⟨hM.alloc _, bp.alloc _, Blk.new _ _ _⟩ ?_; clear hM bp x0 x1; rintro wy ⟨hM, bp, bx⟩)
      have y0 : wy.cell? ⟨wr.heap.size, 0, none⟩ = some (.string ⟨#[70, 114, 111, 109]⟩) := boxedCell bx 0
      go_upto_region 16 with (first | ((with_reducible refine holdLoad 24 rfl ?_); unfold Hold; refine wpList_loadB rfl rfl rfl Tryz.underlying24 (by kernel_rfl) hM.bm (whole _) ?_) | (go_at_call 51; refine (HO1.out _ hM.hB).mono ?_; rintro e w1 ⟨rfl, hC⟩; replace hM := hM.call hC; replace bp := bp.call hC; replace bx := bx.call hC; clear y0 hC))
      cases g1 with
      | false =>
       have HR1 : (mustS mg).2 = 100 := by rw [HR.out]; exact must2_F (by rw [HMH.out]; exact adrOf_no HE1.out) (by decide)
       go_wp2_with (first | ((with_reducible refine holdLoad 37 rfl ?_); unfold Hold; refine wpList_loadB rfl rfl rfl Tryz.underlying37 (by kernel_rfl) hM.br (whole _) ?_) | ((with_reducible refine holdStore 37 rfl ?_); unfold Hold; refine wpList_storeB (vs := (mrow M (bs (branchV v).1) (bs (byV v)) ⟨#[]⟩ ⟨#[]⟩ ⟨#[]⟩ B 0 (.string ⟨#[]⟩) (.string ⟨#[]⟩) (.string ⟨#[]⟩) (.string ⟨#[]⟩) (.int .i64 0) (.slice none 0 0) (.slice none 0 0) (.slice none 0 0) (.string ⟨#[]⟩) (.string ⟨#[]⟩) (.string ⟨#[]⟩) (.string ⟨#[]⟩) (.int .i64 0) (.slice none 0 0) (.slice none 0 0) (.slice none 0 0))) rfl rfl rfl rfl (by kernel_rfl) hM.b2 (Nat.le_of_eq (by kernel_rfl)) (by kernel_rfl) (setAll_whole (by kernel_rfl)) ?_; intro w9 bz9 hfar9 hsz9 hbel9))
       refine bodyPost_ret (results_ct rfl rfl rfl Tryz.underlying37 (by kernel_rfl) bz9) rfl ?_
       exact mEnd HR1 (by decide) (by kernel_rfl) (by kernel_rfl) (hM.hB.trans (hbel9 _ (by omega)))
      | true =>
       go_upto_region 18 with fail
       refine wp_region_held_drew (S := fun wx => Blk wx wr.heap.size 109 #[.string ⟨#[70, 114, 111, 109]⟩, .pointer (some ⟨w.heap.size + 1 + 1, 9, none⟩)]) (by kernel_rfl) (Blk.drw bx) (fun hHeld => ?_)
       replace hM := hM.drew
       replace bp := Blk.drw bp
       replace bx := Blk.drw bx
       refine tkH 0 ?_
       try simp only [Act.put, agT]
       refine tkH 1 ?_ (v := .pointer (some ⟨w.heap.size + 1 + 1, 9, none⟩)) (hy := by intro wx hSw; have c1 : wx.cell? ⟨wr.heap.size, 1, none⟩ = some (.pointer (some ⟨w.heap.size + 1 + 1, 9, none⟩)) := boxedCell hSw 1; go_simp)
       try simp only [Act.put, agT]
       refine tkH 2 ?_
       try simp only [Act.put, agT]
       refine rdyH 3 (fun K hK => ?_)
       go_simp
       go_at_call 33
       refine (HA1.out _ hM.hB).mono ?_
       rintro e w1 ⟨u1, u2, u3, rfl, j1, j2, j3, f1, f2, f3, hC⟩
       obtain ⟨o1, c1, rfl⟩ := j1.form'
       obtain ⟨p1, q1, rfl⟩ := j2.form'
       obtain ⟨r1, e1, rfl⟩ := j3.form'
       have hA1 : Ad3 (w.heap.size + 1 + 1 + 1) w1 (.slice o1 F1.length c1) (.slice p1 G1.length q1) (.slice r1 P1.length e1) ⟨d1, ⟨s1, t1, h1, n1, F1, G1⟩, P1⟩ := ⟨j1, j2, j3, f1.mono (Nat.succ_le_of_lt hM.lt), f2.mono (Nat.succ_le_of_lt hM.lt), f3.mono (Nat.succ_le_of_lt hM.lt)⟩
       clear j1 j2 j3 f1 f2 f3
       replace hM := hM.call hC
       replace bp := bp.call hC
       replace bx := bx.call hC
       clear hC
       refine hK.out _ _ ?_ (fun hHeld => ?_)
       focus ((try dsimp only); exact bx)
       clear hK K
       try simp only [Act.put, agT]
       refine tkH 4 ?_
       try simp only [Act.put, agT]
       refine tkH 5 ?_
       try simp only [Act.put, agT]
       refine tkH 6 ?_
       try simp only [Act.put, agT]
       refine tkH 7 ?_
       try simp only [Act.put, agT]
       refine rdyH 8 (fun K hK => ?_)
       rw [if_pos (by rfl)]
       refine op_storeB (off := 9) (vs := #[.string (bs d1), .string (bs s1), .string (bs t1), .string (bs h1), .int .i64 n1, .slice o1 F1.length c1, .slice p1 G1.length q1, .slice r1 P1.length e1]) (cs' := (mrow M (bs (branchV v).1) (bs (byV v)) ⟨#[]⟩ ⟨#[]⟩ ⟨#[]⟩ B 0 (.string (bs d1)) (.string (bs s1)) (.string (bs t1)) (.string (bs h1)) (.int .i64 n1) (.slice o1 F1.length c1) (.slice p1 G1.length q1) (.slice r1 P1.length e1) (.string ⟨#[]⟩) (.string ⟨#[]⟩) (.string ⟨#[]⟩) (.string ⟨#[]⟩) (.int .i64 0) (.slice none 0 0) (.slice none 0 0) (.slice none 0 0))) rfl rfl rfl (by kernel_rfl) hM.br (Nat.le_of_ble_eq_true (by kernel_rfl)) (by kernel_rfl) (by kernel_rfl) ?_
       intro w7 b7 hf7 hs7 hl7
       have hgx : wr.heap.size ≠ w.heap.size + 1 + 1 := fun h => by have := hMr.lt; omega
       have hgp : w8.heap.size ≠ w.heap.size + 1 + 1 := fun h => by have := hM8.lt; omega
       replace bx : Blk w7 wr.heap.size 109 #[.string ⟨#[70, 114, 111, 109]⟩, .pointer (some ⟨w.heap.size + 1 + 1, 9, none⟩)] := (hf7 _ hgx).trans bx
       replace bp : Blk w7 w8.heap.size 109 #[.string ⟨#[70, 114, 111, 109]⟩, .pointer (some ⟨w.heap.size + 1 + 1, 9, none⟩), .string ⟨#[84, 111]⟩, .pointer (some ⟨w.heap.size + 1 + 1, 17, none⟩)] := (hf7 _ hgp).trans bp
       replace hA1 := hA1.store (by omega) hf7 hs7
       replace hM := hM.store b7 hf7 hl7
       clear b7 hf7 hs7 hl7 hgx hgp
       refine hK.out _ _ ?_ (fun hHeld => ?_)
       focus ((try dsimp only); exact bx)
       clear hK K
       try simp only [Act.put, agT]
       refine tkH 9 ?_
       try simp only [Act.put, agT]
       refine wpAnyH_done (by kernel_rfl) ?_ _
       by_cases hz : z1 = 0
       ·subst hz
        go_wp2
        go_roundw
        case rel => exact .inr (.inl ⟨by first | rfl | go_num, o1, c1, p1, q1, r1, e1, adrOf_ok HE1.out HY1.out, hM, bp, hA1⟩)
        case measure => simp [intOf]
       ·have tne : (z1 != 0) = true := by simpa using hz
        have HC := κ hz
        have HR1 : (mustS mg).2 = z1 := by rw [HR.out]; exact must2_F (by rw [HMH.out]; exact adrOf_ok HE1.out HY1.out) HC.out
        clear hz
        go_wp2_with (first | ((with_reducible refine holdLoad 37 rfl ?_); unfold Hold; refine wpList_loadB rfl rfl rfl Tryz.underlying37 (by kernel_rfl) hM.br (whole _) ?_) | ((with_reducible refine holdStore 37 rfl ?_); unfold Hold; refine wpList_storeB (vs := (mrow M (bs (branchV v).1) (bs (byV v)) ⟨#[]⟩ ⟨#[]⟩ ⟨#[]⟩ B 0 (.string (bs d1)) (.string (bs s1)) (.string (bs t1)) (.string (bs h1)) (.int .i64 n1) (.slice o1 F1.length c1) (.slice p1 G1.length q1) (.slice r1 P1.length e1) (.string ⟨#[]⟩) (.string ⟨#[]⟩) (.string ⟨#[]⟩) (.string ⟨#[]⟩) (.int .i64 0) (.slice none 0 0) (.slice none 0 0) (.slice none 0 0))) rfl rfl rfl rfl (by kernel_rfl) hM.b2 (Nat.le_of_eq (by kernel_rfl)) (by kernel_rfl) (setAll_whole (by kernel_rfl)) ?_; intro w9 bz9 hfar9 hsz9 hbel9))
        refine bodyPost_ret (results_ct rfl rfl rfl Tryz.underlying37 (by kernel_rfl) bz9) rfl ?_
        exact mEnd HR1 HC.out (by kernel_rfl) (by kernel_rfl) (hM.hB.trans (hbel9 _ (by omega)))
     ·have hMr := hM
      have HAF := κ hAF
      clear hAF
      have x0 : wr.cell? ⟨w8.heap.size, 2, none⟩ = some (.string ⟨#[84, 111]⟩) := boxedCell bp 2
      have x1 : wr.cell? ⟨w8.heap.size, 3, none⟩ = some (.pointer (some ⟨w.heap.size + 1 + 1, 17, none⟩)) := boxedCell bp 3
      go_upto_region 15 with ((with_reducible refine holdStore 109 rfl ?_); unfold Hold; refine wpList_storeNew (vs := #[.string ⟨#[84, 111]⟩, .pointer (some ⟨w.heap.size + 1 + 1, 17, none⟩)]) rfl rfl rfl rfl (by kernel_rfl) (by kernel_rfl) (by kernel_rfl) ?_; refine wpList_to (fun x => MSt w #[.string M, .string TG, .int .i64 X, .string RS, .slice mo H.length mc, .string B] (mrow M (bs (branchV v).1) (bs (byV v)) ⟨#[]⟩ ⟨#[]⟩ ⟨#[]⟩ B 0 (.string (bs d1)) (.string (bs s1)) (.string (bs t1)) (.string (bs h1)) (.int .i64 n1) (.slice o1 F1.length c1) (.slice p1 G1.length q1) (.slice r1 P1.length e1) (.string ⟨#[]⟩) (.string ⟨#[]⟩) (.string ⟨#[]⟩) (.string ⟨#[]⟩) (.int .i64 0) (.slice none 0 0) (.slice none 0 0) (.slice none 0 0)) x ∧ Blk x w8.heap.size 109 #[.string ⟨#[70, 114, 111, 109]⟩, .pointer (some ⟨w.heap.size + 1 + 1, 9, none⟩), .string ⟨#[84, 111]⟩, .pointer (some ⟨w.heap.size + 1 + 1, 17, none⟩)] ∧ Blk x wr.heap.size 109 #[.string ⟨#[84, 111]⟩, .pointer (some ⟨w.heap.size + 1 + 1, 17, none⟩)] ∧ Ad3 (w.heap.size + 1 + 1 + 1) x (.slice o1 F1.length c1) (.slice p1 G1.length q1) (.slice r1 P1.length e1) ⟨d1, ⟨s1, t1, h1, n1, F1, G1⟩, P1⟩) ⟨hM.alloc _, bp.alloc _, Blk.new _ _ _, hA1.call ((Below.refl _ _).alloc (ρ _) _)⟩ ?_; clear hM bp x0 x1 hA1; rintro wy ⟨hM, bp, bx, hA1⟩)
      have y0 : wy.cell? ⟨wr.heap.size, 0, none⟩ = some (.string ⟨#[84, 111]⟩) := boxedCell bx 0
      go_upto_region 16 with (first | ((with_reducible refine holdLoad 24 rfl ?_); unfold Hold; refine wpList_loadB rfl rfl rfl Tryz.underlying24 (by kernel_rfl) hM.bm (whole _) ?_) | (go_at_call 51; refine (HO2.out _ hM.hB).mono ?_; rintro e w1 ⟨rfl, hC⟩; replace hM := hM.call hC; replace bp := bp.call hC; replace bx := bx.call hC; replace hA1 := hA1.call hC; clear y0 hC))
      cases g2 with
      | false =>
       have HR1 : (mustS mg).2 = 100 := by rw [HR.out]; exact must2_T (by rw [HMH.out]; exact HAF.out) (by rw [HMH.out]; exact adrOf_no HE2.out) (by decide)
       go_wp2_with (first | ((with_reducible refine holdLoad 37 rfl ?_); unfold Hold; refine wpList_loadB rfl rfl rfl Tryz.underlying37 (by kernel_rfl) hM.br (whole _) ?_) | ((with_reducible refine holdStore 37 rfl ?_); unfold Hold; refine wpList_storeB (vs := (mrow M (bs (branchV v).1) (bs (byV v)) ⟨#[]⟩ ⟨#[]⟩ ⟨#[]⟩ B 0 (.string (bs d1)) (.string (bs s1)) (.string (bs t1)) (.string (bs h1)) (.int .i64 n1) (.slice o1 F1.length c1) (.slice p1 G1.length q1) (.slice r1 P1.length e1) (.string ⟨#[]⟩) (.string ⟨#[]⟩) (.string ⟨#[]⟩) (.string ⟨#[]⟩) (.int .i64 0) (.slice none 0 0) (.slice none 0 0) (.slice none 0 0))) rfl rfl rfl rfl (by kernel_rfl) hM.b2 (Nat.le_of_eq (by kernel_rfl)) (by kernel_rfl) (setAll_whole (by kernel_rfl)) ?_; intro w9 bz9 hfar9 hsz9 hbel9))
       refine bodyPost_ret (results_ct rfl rfl rfl Tryz.underlying37 (by kernel_rfl) bz9) rfl ?_
       exact mEnd HR1 (by decide) (by kernel_rfl) (by kernel_rfl) (hM.hB.trans (hbel9 _ (by omega)))
      | true =>
       go_upto_region 18 with fail
       refine wp_region_held_drew (S := fun wx => Blk wx wr.heap.size 109 #[.string ⟨#[84, 111]⟩, .pointer (some ⟨w.heap.size + 1 + 1, 17, none⟩)]) (by kernel_rfl) (Blk.drw bx) (fun hHeld => ?_)
       replace hM := hM.drew
       replace bp := Blk.drw bp
       replace bx := Blk.drw bx
       replace hA1 := hA1.call (zDrew (Below.refl _ _))
       refine tkH 0 ?_
       try simp only [Act.put, agT]
       refine tkH 1 ?_ (v := .pointer (some ⟨w.heap.size + 1 + 1, 17, none⟩)) (hy := by intro wx hSw; have c1 : wx.cell? ⟨wr.heap.size, 1, none⟩ = some (.pointer (some ⟨w.heap.size + 1 + 1, 17, none⟩)) := boxedCell hSw 1; go_simp)
       try simp only [Act.put, agT]
       refine tkH 2 ?_
       try simp only [Act.put, agT]
       refine rdyH 3 (fun K hK => ?_)
       go_simp
       go_at_call 33
       refine (HA2.out _ hM.hB).mono ?_
       rintro e w1 ⟨u1, u2, u3, rfl, j1, j2, j3, f1, f2, f3, hC⟩
       obtain ⟨o2, c2, rfl⟩ := j1.form'
       obtain ⟨p2, q2, rfl⟩ := j2.form'
       obtain ⟨r2, e2, rfl⟩ := j3.form'
       have hA2 : Ad3 (w.heap.size + 1 + 1 + 1) w1 (.slice o2 F2.length c2) (.slice p2 G2.length q2) (.slice r2 P2.length e2) ⟨d2, ⟨s2, t2, h2, n2, F2, G2⟩, P2⟩ := ⟨j1, j2, j3, f1.mono (Nat.succ_le_of_lt hM.lt), f2.mono (Nat.succ_le_of_lt hM.lt), f3.mono (Nat.succ_le_of_lt hM.lt)⟩
       clear j1 j2 j3 f1 f2 f3
       replace hM := hM.call hC
       replace bp := bp.call hC
       replace bx := bx.call hC
       replace hA1 := hA1.call hC
       clear hC
       refine hK.out _ _ ?_ (fun hHeld => ?_)
       focus ((try dsimp only); exact bx)
       clear hK K
       try simp only [Act.put, agT]
       refine tkH 4 ?_
       try simp only [Act.put, agT]
       refine tkH 5 ?_
       try simp only [Act.put, agT]
       refine tkH 6 ?_
       try simp only [Act.put, agT]
       refine tkH 7 ?_
       try simp only [Act.put, agT]
       refine rdyH 8 (fun K hK => ?_)
       rw [if_pos (by rfl)]
       refine op_storeB (off := 17) (vs := #[.string (bs d2), .string (bs s2), .string (bs t2), .string (bs h2), .int .i64 n2, .slice o2 F2.length c2, .slice p2 G2.length q2, .slice r2 P2.length e2]) (cs' := (mrow M (bs (branchV v).1) (bs (byV v)) ⟨#[]⟩ ⟨#[]⟩ ⟨#[]⟩ B 0 (.string (bs d1)) (.string (bs s1)) (.string (bs t1)) (.string (bs h1)) (.int .i64 n1) (.slice o1 F1.length c1) (.slice p1 G1.length q1) (.slice r1 P1.length e1) (.string (bs d2)) (.string (bs s2)) (.string (bs t2)) (.string (bs h2)) (.int .i64 n2) (.slice o2 F2.length c2) (.slice p2 G2.length q2) (.slice r2 P2.length e2))) rfl rfl rfl (by kernel_rfl) hM.br (Nat.le_of_ble_eq_true (by kernel_rfl)) (by kernel_rfl) (by kernel_rfl) ?_
       intro w7 b7 hf7 hs7 hl7
       have hgx : wr.heap.size ≠ w.heap.size + 1 + 1 := fun h => by have := hMr.lt; omega
       have hgp : w8.heap.size ≠ w.heap.size + 1 + 1 := fun h => by have := hM8.lt; omega
       replace bx : Blk w7 wr.heap.size 109 #[.string ⟨#[84, 111]⟩, .pointer (some ⟨w.heap.size + 1 + 1, 17, none⟩)] := (hf7 _ hgx).trans bx
       replace bp : Blk w7 w8.heap.size 109 #[.string ⟨#[70, 114, 111, 109]⟩, .pointer (some ⟨w.heap.size + 1 + 1, 9, none⟩), .string ⟨#[84, 111]⟩, .pointer (some ⟨w.heap.size + 1 + 1, 17, none⟩)] := (hf7 _ hgp).trans bp
       replace hA1 := hA1.store (by omega) hf7 hs7
       replace hA2 := hA2.store (by omega) hf7 hs7
       replace hM := hM.store b7 hf7 hl7
       clear b7 hf7 hs7 hl7 hgx hgp
       refine hK.out _ _ ?_ (fun hHeld => ?_)
       focus ((try dsimp only); exact bx)
       clear hK K
       try simp only [Act.put, agT]
       refine tkH 9 ?_
       try simp only [Act.put, agT]
       refine wpAnyH_done (by kernel_rfl) ?_ _
       by_cases hz : z2 = 0
       ·subst hz
        go_wp2
        go_roundw
        case rel => exact .inr (.inr ⟨by first | rfl | go_num, o1, c1, p1, q1, r1, e1, o2, c2, p2, q2, r2, e2, HAF.out, adrOf_ok HE2.out HY2.out, hM, hA1, hA2⟩)
        case measure => simp [intOf]
       ·have tne : (z2 != 0) = true := by simpa using hz
        have HC := κ hz
        have HR1 : (mustS mg).2 = z2 := by rw [HR.out]; exact must2_T (by rw [HMH.out]; exact HAF.out) (by rw [HMH.out]; exact adrOf_ok HE2.out HY2.out) HC.out
        clear hz
        go_wp2_with (first | ((with_reducible refine holdLoad 37 rfl ?_); unfold Hold; refine wpList_loadB rfl rfl rfl Tryz.underlying37 (by kernel_rfl) hM.br (whole _) ?_) | ((with_reducible refine holdStore 37 rfl ?_); unfold Hold; refine wpList_storeB (vs := (mrow M (bs (branchV v).1) (bs (byV v)) ⟨#[]⟩ ⟨#[]⟩ ⟨#[]⟩ B 0 (.string (bs d1)) (.string (bs s1)) (.string (bs t1)) (.string (bs h1)) (.int .i64 n1) (.slice o1 F1.length c1) (.slice p1 G1.length q1) (.slice r1 P1.length e1) (.string (bs d2)) (.string (bs s2)) (.string (bs t2)) (.string (bs h2)) (.int .i64 n2) (.slice o2 F2.length c2) (.slice p2 G2.length q2) (.slice r2 P2.length e2))) rfl rfl rfl rfl (by kernel_rfl) hM.b2 (Nat.le_of_eq (by kernel_rfl)) (by kernel_rfl) (setAll_whole (by kernel_rfl)) ?_; intro w9 bz9 hfar9 hsz9 hbel9))
        refine bodyPost_ret (results_ct rfl rfl rfl Tryz.underlying37 (by kernel_rfl) bz9) rfl ?_
        exact mEnd HR1 HC.out (by kernel_rfl) (by kernel_rfl) (hM.hB.trans (hbel9 _ (by omega)))
     ·have HAF := κ hAF
      have HAT := κ hAT
      clear hAF hAT
      go_upto_region 22 with fail
      refine wp_region_held_drew (S := fun wx => ∃ f t : ByteArray, Blk wx (w.heap.size + 1 + 1) 37 (mrow M (bs (branchV v).1) (bs (byV v)) f t ⟨#[]⟩ B 0 (.string (bs d1)) (.string (bs s1)) (.string (bs t1)) (.string (bs h1)) (.int .i64 n1) (.slice o1 F1.length c1) (.slice p1 G1.length q1) (.slice r1 P1.length e1) (.string (bs d2)) (.string (bs s2)) (.string (bs t2)) (.string (bs h2)) (.int .i64 n2) (.slice o2 F2.length c2) (.slice p2 G2.length q2) (.slice r2 P2.length e2))) (by kernel_rfl) ⟨_, _, Blk.drw hM.br⟩ (fun hHeld => ?_)
      replace hM := hM.drew
      replace hA1 := hA1.call (zDrew (Below.refl _ _))
      replace hA2 := hA2.call (zDrew (Below.refl _ _))
      refine tkH 0 ?_
      try simp only [Act.put, agT]
      refine tkH 1 ?_ (v := .agg #[.string (bs d1), .string (bs s1), .string (bs t1), .string (bs h1), .int .i64 n1, .slice o1 F1.length c1, .slice p1 G1.length q1, .slice r1 P1.length e1]) (hy := by intro wx hSw; obtain ⟨f, t, hb9⟩ := hSw; exact run_loadBo (off := 9) rfl rfl Tryz.underlying31 (by kernel_rfl) hb9 (by kernel_rfl))
      try simp only [Act.put, agT]
      refine tkH 3 ?_
      try simp only [Act.put, agT]
      refine tkH 4 ?_ (v := .agg #[.string (bs d2), .string (bs s2), .string (bs t2), .string (bs h2), .int .i64 n2, .slice o2 F2.length c2, .slice p2 G2.length q2, .slice r2 P2.length e2]) (hy := by intro wx hSw; obtain ⟨f, t, hb9⟩ := hSw; exact run_loadBo (off := 17) rfl rfl Tryz.underlying31 (by kernel_rfl) hb9 (by kernel_rfl))
      try simp only [Act.put, agT]
      refine rdyH 2 (fun K hK => ?_)
      go_simp
      go_at_call 68
      refine (HTG1.out _ _ _ _ _ _ _ hA1.r3).mono ?_
      rintro e w1 ⟨rfl, hC⟩
      replace hM := hM.call hC
      replace hA1 := hA1.call hC
      replace hA2 := hA2.call hC
      clear hC
      refine hK.out _ _ ?_ (fun hHeld => ?_)
      focus ((try dsimp only); exact ⟨_, _, hM.br⟩)
      clear hK K
      try simp only [Act.put, agT]
      refine rdyH 5 (fun K hK => ?_)
      go_simp
      go_at_call 68
      refine (HTG2.out _ _ _ _ _ _ _ hA2.r3).mono ?_
      rintro e w1 ⟨rfl, hC⟩
      replace hM := hM.call hC
      replace hA1 := hA1.call hC
      replace hA2 := hA2.call hC
      clear hC
      refine hK.out _ _ ?_ (fun hHeld => ?_)
      focus ((try dsimp only); exact ⟨_, _, hM.br⟩)
      clear hK K
      try simp only [Act.put, agT]
      refine tkH 6 ?_
      try simp only [Act.put, agT]
      refine rdyH 7 (fun K hK => ?_)
      rw [if_pos (by rfl)]
      refine op_storeC (off := 25) (v := .string (bs (value P1 nTag).1)) (cs' := (mrow M (bs (branchV v).1) (bs (byV v)) (bs (value P1 nTag).1) ⟨#[]⟩ ⟨#[]⟩ B 0 (.string (bs d1)) (.string (bs s1)) (.string (bs t1)) (.string (bs h1)) (.int .i64 n1) (.slice o1 F1.length c1) (.slice p1 G1.length q1) (.slice r1 P1.length e1) (.string (bs d2)) (.string (bs s2)) (.string (bs t2)) (.string (bs h2)) (.int .i64 n2) (.slice o2 F2.length c2) (.slice p2 G2.length q2) (.slice r2 P2.length e2))) rfl rfl rfl (by kernel_rfl) hM.br (Nat.le_of_ble_eq_true (by kernel_rfl)) (by kernel_rfl) (by kernel_rfl) (by kernel_rfl) ?_
      intro w7 b7 hf7 hs7 hl7
      replace hA1 := hA1.store (by omega) hf7 hs7
      replace hA2 := hA2.store (by omega) hf7 hs7
      replace hM := hM.store b7 hf7 hl7
      clear b7 hf7 hs7 hl7
      refine hK.out _ _ ?_ (fun hHeld => ?_)
      focus ((try dsimp only); exact ⟨_, _, hM.br⟩)
      clear hK K
      try simp only [Act.put, agT]
      refine tkH 8 ?_
      try simp only [Act.put, agT]
      refine rdyH 9 (fun K hK => ?_)
      rw [if_pos (by rfl)]
      refine op_storeC (off := 26) (v := .string (bs (value P2 nTag).1)) (cs' := (mrow M (bs (branchV v).1) (bs (byV v)) (bs (value P1 nTag).1) (bs (value P2 nTag).1) ⟨#[]⟩ B 0 (.string (bs d1)) (.string (bs s1)) (.string (bs t1)) (.string (bs h1)) (.int .i64 n1) (.slice o1 F1.length c1) (.slice p1 G1.length q1) (.slice r1 P1.length e1) (.string (bs d2)) (.string (bs s2)) (.string (bs t2)) (.string (bs h2)) (.int .i64 n2) (.slice o2 F2.length c2) (.slice p2 G2.length q2) (.slice r2 P2.length e2))) rfl rfl rfl (by kernel_rfl) hM.br (Nat.le_of_ble_eq_true (by kernel_rfl)) (by kernel_rfl) (by kernel_rfl) (by kernel_rfl) ?_
      intro w7 b7 hf7 hs7 hl7
      replace hA1 := hA1.store (by omega) hf7 hs7
      replace hA2 := hA2.store (by omega) hf7 hs7
      replace hM := hM.store b7 hf7 hl7
      clear b7 hf7 hs7 hl7
      refine hK.out _ _ ?_ (fun hHeld => ?_)
      focus ((try dsimp only); exact ⟨_, _, hM.br⟩)
      clear hK K
      try simp only [Act.put, agT]
      refine wpAnyH_done (by kernel_rfl) ?_ _
      have HR3 := κ (HR.out.trans (must2_ok (m := mg) (v := v) (by rw [HMH.out]; exact HAF.out) (by rw [HMH.out]; exact HAT.out)))
      go_upto_region 24 with (first | ((with_reducible refine holdLoad 24 rfl ?_); unfold Hold; refine wpList_loadB rfl rfl rfl Tryz.underlying24 (by kernel_rfl) hM.bm (whole _) ?_) | (go_at_call 51; refine (HOC.out _ hM.hB).mono ?_; rintro e w1 ⟨rfl, hC⟩; replace hM := hM.call hC; replace hA1 := hA1.call hC; replace hA2 := hA2.call hC; clear hC))
      go_upto_region 25 with (first | ((with_reducible refine holdLoad 24 rfl ?_); unfold Hold; refine wpList_loadB rfl rfl rfl Tryz.underlying24 (by kernel_rfl) hM.bm (whole _) ?_) | (go_at_call 51; refine (HOQ.out _ hM.hB).mono ?_; rintro e w1 ⟨rfl, hC⟩; replace hM := hM.call hC; replace hA1 := hA1.call hC; replace hA2 := hA2.call hC; clear hC))
      cases gC with
      | false =>
       have HR1 : (mustS mg).2 = 100 := by rw [HR3.out]; exact must3_0 (HEC.out.trans (by rw [HMH.out])) (HEQ.out.trans (by rw [HMH.out])) (.inl rfl)
       go_wp2_with (first | (go_at_call 69; refine (HCL.out _).mono ?_; rintro e w1 ⟨rfl, rfl⟩) | ((with_reducible refine holdLoad 37 rfl ?_); unfold Hold; refine wpList_loadB rfl rfl rfl Tryz.underlying37 (by kernel_rfl) hM.br (whole _) ?_) | ((with_reducible refine holdStore 37 rfl ?_); unfold Hold; refine wpList_storeB (vs := (mrow M (bs (branchV v).1) (bs (byV v)) (bs (value P1 nTag).1) (bs (value P2 nTag).1) ⟨#[]⟩ B 0 (.string (bs d1)) (.string (bs s1)) (.string (bs t1)) (.string (bs h1)) (.int .i64 n1) (.slice o1 F1.length c1) (.slice p1 G1.length q1) (.slice r1 P1.length e1) (.string (bs d2)) (.string (bs s2)) (.string (bs t2)) (.string (bs h2)) (.int .i64 n2) (.slice o2 F2.length c2) (.slice p2 G2.length q2) (.slice r2 P2.length e2))) rfl rfl rfl rfl (by kernel_rfl) hM.b2 (Nat.le_of_eq (by kernel_rfl)) (by kernel_rfl) (setAll_whole (by kernel_rfl)) ?_; intro w9 bz9 hfar9 hsz9 hbel9))
       refine bodyPost_ret (results_ct rfl rfl rfl Tryz.underlying37 (by kernel_rfl) bz9) rfl ?_
       exact mEnd HR1 (by decide) (by kernel_rfl) (by kernel_rfl) (hM.hB.trans (hbel9 _ (by omega)))
      | true =>
       cases gQ with
       | false =>
        have HR1 : (mustS mg).2 = 100 := by rw [HR3.out]; exact must3_0 (HEC.out.trans (by rw [HMH.out])) (HEQ.out.trans (by rw [HMH.out])) (.inr (.inl rfl))
        go_wp2_with (first | (go_at_call 69; refine (HCL.out _).mono ?_; rintro e w1 ⟨rfl, rfl⟩) | ((with_reducible refine holdLoad 37 rfl ?_); unfold Hold; refine wpList_loadB rfl rfl rfl Tryz.underlying37 (by kernel_rfl) hM.br (whole _) ?_) | ((with_reducible refine holdStore 37 rfl ?_); unfold Hold; refine wpList_storeB (vs := (mrow M (bs (branchV v).1) (bs (byV v)) (bs (value P1 nTag).1) (bs (value P2 nTag).1) ⟨#[]⟩ B 0 (.string (bs d1)) (.string (bs s1)) (.string (bs t1)) (.string (bs h1)) (.int .i64 n1) (.slice o1 F1.length c1) (.slice p1 G1.length q1) (.slice r1 P1.length e1) (.string (bs d2)) (.string (bs s2)) (.string (bs t2)) (.string (bs h2)) (.int .i64 n2) (.slice o2 F2.length c2) (.slice p2 G2.length q2) (.slice r2 P2.length e2))) rfl rfl rfl rfl (by kernel_rfl) hM.b2 (Nat.le_of_eq (by kernel_rfl)) (by kernel_rfl) (setAll_whole (by kernel_rfl)) ?_; intro w9 bz9 hfar9 hsz9 hbel9))
        refine bodyPost_ret (results_ct rfl rfl rfl Tryz.underlying37 (by kernel_rfl) bz9) rfl ?_
        exact mEnd HR1 (by decide) (by kernel_rfl) (by kernel_rfl) (hM.hB.trans (hbel9 _ (by omega)))
       | true =>
        cases kC with
        | false =>
         have HR1 : (mustS mg).2 = 100 := by rw [HR3.out]; exact must3_0 (HEC.out.trans (by rw [HMH.out])) (HEQ.out.trans (by rw [HMH.out])) (.inr (.inr HKC.out.symm))
         go_wp2_with (first | (go_at_call 69; refine (HCL.out _).mono ?_; rintro e w1 ⟨rfl, rfl⟩) | ((with_reducible refine holdLoad 37 rfl ?_); unfold Hold; refine wpList_loadB rfl rfl rfl Tryz.underlying37 (by kernel_rfl) hM.br (whole _) ?_) | ((with_reducible refine holdStore 37 rfl ?_); unfold Hold; refine wpList_storeB (vs := (mrow M (bs (branchV v).1) (bs (byV v)) (bs (value P1 nTag).1) (bs (value P2 nTag).1) ⟨#[]⟩ B 0 (.string (bs d1)) (.string (bs s1)) (.string (bs t1)) (.string (bs h1)) (.int .i64 n1) (.slice o1 F1.length c1) (.slice p1 G1.length q1) (.slice r1 P1.length e1) (.string (bs d2)) (.string (bs s2)) (.string (bs t2)) (.string (bs h2)) (.int .i64 n2) (.slice o2 F2.length c2) (.slice p2 G2.length q2) (.slice r2 P2.length e2))) rfl rfl rfl rfl (by kernel_rfl) hM.b2 (Nat.le_of_eq (by kernel_rfl)) (by kernel_rfl) (setAll_whole (by kernel_rfl)) ?_; intro w9 bz9 hfar9 hsz9 hbel9))
         refine bodyPost_ret (results_ct rfl rfl rfl Tryz.underlying37 (by kernel_rfl) bz9) rfl ?_
         exact mEnd HR1 (by decide) (by kernel_rfl) (by kernel_rfl) (hM.hB.trans (hbel9 _ (by omega)))
        | true =>
         by_cases hsc : sc = 0
         rotate_left
         ·have tne : (sc != 0) = true := by simpa using hsc
          have HC := κ hsc
          clear hsc
          have HR1 : (mustS mg).2 = 80 := by rw [HR3.out]; exact must3_1 (HEC.out.trans (by rw [HMH.out])) (HEQ.out.trans (by rw [HMH.out])) HKC.out.symm HSE.out (.inl HC.out)
          go_wp2_with (first | (go_at_call 69; refine (HCL.out _).mono ?_; rintro e w1 ⟨rfl, rfl⟩) | (go_at_call 70; refine (HSQ.out _ hM.hB).mono ?_; rintro e w1 ⟨rfl, hC⟩; replace hM := hM.call hC; replace hA1 := hA1.call hC; replace hA2 := hA2.call hC; clear hC; have p0 : w1.cell? ⟨w.heap.size, 0, none⟩ = some (.string M) := boxedCell hM.bm 0) | ((with_reducible refine holdLoad 37 rfl ?_); unfold Hold; refine wpList_loadB rfl rfl rfl Tryz.underlying37 (by kernel_rfl) hM.br (whole _) ?_) | ((with_reducible refine holdStore 37 rfl ?_); unfold Hold; refine wpList_storeB (vs := (mrow M (bs (branchV v).1) (bs (byV v)) (bs (value P1 nTag).1) (bs (value P2 nTag).1) ⟨#[]⟩ B 0 (.string (bs d1)) (.string (bs s1)) (.string (bs t1)) (.string (bs h1)) (.int .i64 n1) (.slice o1 F1.length c1) (.slice p1 G1.length q1) (.slice r1 P1.length e1) (.string (bs d2)) (.string (bs s2)) (.string (bs t2)) (.string (bs h2)) (.int .i64 n2) (.slice o2 F2.length c2) (.slice p2 G2.length q2) (.slice r2 P2.length e2))) rfl rfl rfl rfl (by kernel_rfl) hM.b2 (Nat.le_of_eq (by kernel_rfl)) (by kernel_rfl) (setAll_whole (by kernel_rfl)) ?_; intro w9 bz9 hfar9 hsz9 hbel9))
          refine bodyPost_ret (results_ct rfl rfl rfl Tryz.underlying37 (by kernel_rfl) bz9) rfl ?_
          exact mEnd HR1 (by decide) (by kernel_rfl) (by kernel_rfl) (hM.hB.trans (hbel9 _ (by omega)))
         subst hsc
         by_cases hme : sm = us M
         rotate_left
         ·have tne : (sm == M.toList) = false := by rw [toList_us]; simpa using hme
          have HC := κ hme
          clear hme
          have HR1 : (mustS mg).2 = 80 := by rw [HR3.out]; exact must3_1 (HEC.out.trans (by rw [HMH.out])) (HEQ.out.trans (by rw [HMH.out])) HKC.out.symm HSE.out (.inr (by rw [HMM.out]; exact HC.out))
          go_wp2_with (first | (go_at_call 69; refine (HCL.out _).mono ?_; rintro e w1 ⟨rfl, rfl⟩) | (go_at_call 70; refine (HSQ.out _ hM.hB).mono ?_; rintro e w1 ⟨rfl, hC⟩; replace hM := hM.call hC; replace hA1 := hA1.call hC; replace hA2 := hA2.call hC; clear hC; have p0 : w1.cell? ⟨w.heap.size, 0, none⟩ = some (.string M) := boxedCell hM.bm 0) | ((with_reducible refine holdLoad 37 rfl ?_); unfold Hold; refine wpList_loadB rfl rfl rfl Tryz.underlying37 (by kernel_rfl) hM.br (whole _) ?_) | ((with_reducible refine holdStore 37 rfl ?_); unfold Hold; refine wpList_storeB (vs := (mrow M (bs (branchV v).1) (bs (byV v)) (bs (value P1 nTag).1) (bs (value P2 nTag).1) ⟨#[]⟩ B 0 (.string (bs d1)) (.string (bs s1)) (.string (bs t1)) (.string (bs h1)) (.int .i64 n1) (.slice o1 F1.length c1) (.slice p1 G1.length q1) (.slice r1 P1.length e1) (.string (bs d2)) (.string (bs s2)) (.string (bs t2)) (.string (bs h2)) (.int .i64 n2) (.slice o2 F2.length c2) (.slice p2 G2.length q2) (.slice r2 P2.length e2))) rfl rfl rfl rfl (by kernel_rfl) hM.b2 (Nat.le_of_eq (by kernel_rfl)) (by kernel_rfl) (setAll_whole (by kernel_rfl)) ?_; intro w9 bz9 hfar9 hsz9 hbel9))
          refine bodyPost_ret (results_ct rfl rfl rfl Tryz.underlying37 (by kernel_rfl) bz9) rfl ?_
          exact mEnd HR1 (by decide) (by kernel_rfl) (by kernel_rfl) (hM.hB.trans (hbel9 _ (by omega)))
         subst hme
         rw [bs_us] at HSQ
         have HF := κ (HR3.out.trans (must3_ok (m := mg) (v := v) (HEC.out.trans (by rw [HMH.out])) (HEQ.out.trans (by rw [HMH.out])) HKC.out.symm HSE.out HMM.out.symm))
         go_upto_region 30 with (first | (go_at_call 69; refine (HCL.out _).mono ?_; rintro e w1 ⟨rfl, rfl⟩) | (go_at_call 70; refine (HSQ.out _ hM.hB).mono ?_; rintro e w1 ⟨rfl, hC⟩; replace hM := hM.call hC; replace hA1 := hA1.call hC; replace hA2 := hA2.call hC; clear hC; have p0 : w1.cell? ⟨w.heap.size, 0, none⟩ = some (.string M) := boxedCell hM.bm 0))
         clear p0
         go_upto_region 31 with (first | ((with_reducible refine holdStore 9 rfl ?_); unfold Hold; refine wpList_storeC (off := 27) (v := .string (bs vC)) (cs' := (mrow M (bs (branchV v).1) (bs (byV v)) (bs (value P1 nTag).1) (bs (value P2 nTag).1) (bs vC) B 0 (.string (bs d1)) (.string (bs s1)) (.string (bs t1)) (.string (bs h1)) (.int .i64 n1) (.slice o1 F1.length c1) (.slice p1 G1.length q1) (.slice r1 P1.length e1) (.string (bs d2)) (.string (bs s2)) (.string (bs t2)) (.string (bs h2)) (.int .i64 n2) (.slice o2 F2.length c2) (.slice p2 G2.length q2) (.slice r2 P2.length e2))) rfl rfl rfl rfl (by kernel_rfl) hM.br (Nat.le_of_ble_eq_true (by kernel_rfl)) (by kernel_rfl) (by kernel_rfl) (by kernel_rfl) ?_; intro w8 b8 hf8 hs8 hl8; replace hA1 := hA1.store (by omega) hf8 hs8; replace hA2 := hA2.store (by omega) hf8 hs8; replace hM := hM.store b8 hf8 hl8; clear b8 hf8 hs8 hl8) | ((with_reducible refine holdStore 3 rfl ?_); unfold Hold; refine wpList_storeC (off := 28) (v := .int .i64 sn) (cs' := (mrow M (bs (branchV v).1) (bs (byV v)) (bs (value P1 nTag).1) (bs (value P2 nTag).1) (bs vC) B sn (.string (bs d1)) (.string (bs s1)) (.string (bs t1)) (.string (bs h1)) (.int .i64 n1) (.slice o1 F1.length c1) (.slice p1 G1.length q1) (.slice r1 P1.length e1) (.string (bs d2)) (.string (bs s2)) (.string (bs t2)) (.string (bs h2)) (.int .i64 n2) (.slice o2 F2.length c2) (.slice p2 G2.length q2) (.slice r2 P2.length e2))) rfl rfl rfl rfl (by kernel_rfl) hM.br (Nat.le_of_ble_eq_true (by kernel_rfl)) (by kernel_rfl) (by kernel_rfl) (by kernel_rfl) ?_; intro w8 b8 hf8 hs8 hl8; replace hA1 := hA1.store (by omega) hf8 hs8; replace hA2 := hA2.store (by omega) hf8 hs8; replace hM := hM.store b8 hf8 hl8; clear b8 hf8 hs8 hl8))
         go_wp2_with (first | ((with_reducible refine holdLoad 37 rfl ?_); unfold Hold; refine wpList_loadB rfl rfl rfl Tryz.underlying37 (by kernel_rfl) hM.br (whole _) ?_) | ((with_reducible refine holdStore 37 rfl ?_); unfold Hold; refine wpList_storeB (vs := (mrow M (bs (branchV v).1) (bs (byV v)) (bs (value P1 nTag).1) (bs (value P2 nTag).1) (bs vC) B sn (.string (bs d1)) (.string (bs s1)) (.string (bs t1)) (.string (bs h1)) (.int .i64 n1) (.slice o1 F1.length c1) (.slice p1 G1.length q1) (.slice r1 P1.length e1) (.string (bs d2)) (.string (bs s2)) (.string (bs t2)) (.string (bs h2)) (.int .i64 n2) (.slice o2 F2.length c2) (.slice p2 G2.length q2) (.slice r2 P2.length e2))) rfl rfl rfl rfl (by kernel_rfl) hM.b2 (Nat.le_of_eq (by kernel_rfl)) (by kernel_rfl) (setAll_whole (by kernel_rfl)) ?_; intro w9 bz9 hfar9 hsz9 hbel9))
         refine bodyPost_ret (results_ct rfl rfl rfl Tryz.underlying37 (by kernel_rfl) bz9) rfl ?_
         replace hA1 := hA1.store (by omega) hfar9 hsz9
         replace hA2 := hA2.store (by omega) hfar9 hsz9
         refine ⟨(mrow M (bs (branchV v).1) (bs (byV v)) (bs (value P1 nTag).1) (bs (value P2 nTag).1) (bs vC) B sn (.string (bs d1)) (.string (bs s1)) (.string (bs t1)) (.string (bs h1)) (.int .i64 n1) (.slice o1 F1.length c1) (.slice p1 G1.length q1) (.slice r1 P1.length e1) (.string (bs d2)) (.string (bs s2)) (.string (bs t2)) (.string (bs h2)) (.int .i64 n2) (.slice o2 F2.length c2) (.slice p2 G2.length q2) (.slice r2 P2.length e2)), congrArg (fun x : Rqt × Int => Ending.returned (.tuple #[.agg (mrow M (bs (branchV v).1) (bs (byV v)) (bs (value P1 nTag).1) (bs (value P2 nTag).1) (bs vC) B sn (.string (bs d1)) (.string (bs s1)) (.string (bs t1)) (.string (bs h1)) (.int .i64 n1) (.slice o1 F1.length c1) (.slice p1 G1.length q1) (.slice r1 P1.length e1) (.string (bs d2)) (.string (bs s2)) (.string (bs t2)) (.string (bs h2)) (.int .i64 n2) (.slice o2 F2.length c2) (.slice p2 G2.length q2) (.slice r2 P2.length e2)), .int .i64 x.2])) HF.out.symm, by kernel_rfl, by kernel_rfl, fun _ => ?_, hM.hB.trans (hbel9 _ (by omega))⟩
         rw [HF.out]
         exact mrow_rq (r := ⟨mg.method, uri0, (branchV v).1, byV v, ⟨d1, ⟨s1, t1, h1, n1, F1, G1⟩, P1⟩, ⟨d2, ⟨s2, t2, h2, n2, F2, G2⟩, P2⟩, tagA ⟨d1, ⟨s1, t1, h1, n1, F1, G1⟩, P1⟩, tagA ⟨d2, ⟨s2, t2, h2, n2, F2, G2⟩, P2⟩, vC, sn, -1, [], [], [], [], [], [], [], mg.body⟩) HMM.out HMB.out rfl rfl rfl rfl rfl rfl rfl rfl rfl hA1 hA2
end Go.Proofs.YtgkilllbkljibaaGreatDoor
