/- Contracts of Go functions, and plain laws. No condition but those told. -/
import Derived.Test.YtipdiddjhimdcaaGreatDoorU02
import Derived.Deep.RegionHeld3
set_option linter.unusedSimpArgs false
set_option linter.unusedVariables false
set_option maxRecDepth 100000
namespace Go.Proofs.YtipdiddjhimdcaaGreatDoor
open Go.RowKit Go.Sort
theorem Hdrs.two (w : World) (base : Nat) (hb : base ≤ w.heap.size) (A B C D : ByteArray) : Hdrs (w.alloc (.cells #[.string A, .string B, .string C, .string D] 68)) base (.slice (some ⟨w.heap.size, 0, none⟩) 2 2) [⟨us A, us B⟩, ⟨us C, us D⟩] :=
 ⟨rfl, .inr ⟨w.heap.size, 2, #[.string A, .string B, .string C, .string D], rfl, hb, by unfold World.alloc; simp, ρ _, by decide, rfl, by simp [Hdr.cells, sv, bs_us]⟩⟩
set_option maxHeartbeats 12800000 in
theorem notifyR_c (vs : Array Value) (HO BR BO : ByteArray) (u : Value) (M : List Hdr) (d : Dlg) (w : World) (hm : Ml w) (hd : RDlg w (.agg vs) d) (hu : RHdrs w u M) (hb : DlgN d) (lH : HO.size ≤ 1073741800) (lB : BR.size ≤ 1073741824) (lO : BO.size ≤ 1073741824) (hM : HdB M) (hMl : M.length ≤ 1073741824) :
  Calls Tryz.prog 29 #[.agg vs, .string HO, .string BR, u, .string BO] w fun e w' => ∃ xs : Array Value, e = .returned (.tuple #[.string (bs (notifyS d (us HO) (us BR) M (us BO)).1), .agg xs, .int .i64 (notifyS d (us HO) (us BR) M (us BO)).2.2]) ∧ RDlg w' (.agg xs) (notifyS d (us HO) (us BR) M (us BO)).2.1 ∧ Below w.heap.size w w' := by
 obtain ⟨vs', ev, s26, one, _, v25, hd⟩ := hd.row
 injection ev with ev
 subst ev
 obtain ⟨e1, y1, e2, y2, e3, y3, e4, y4, e5, y5, e6, y6, e7, y7, e8, y8, e9, y9, ers, h1, h2, h3, h4, h5, h6, h7, h8, h9⟩ := hd.lit
 injection ers with ers
 obtain ⟨⟨⟨a1, a2, a3, a4, a5, a6, _⟩, a7, a8⟩, ⟨⟨b1, b2, b3, b4, b5, b6, _⟩, b7, b8⟩, ⟨t1, t2, t3, t4, t5, t6⟩, lc, lr, lrl⟩ := hb
 have HM := κ hm
 have HPU := κ (fun (wx : World) (h : Below w.heap.size w wx) => printUR_c (bs d.tgt.scheme) (bs d.tgt.user) (bs d.tgt.host) d.tgt.port _ _ d.tgt.ps d.tgt.hs (by rw [size_bs]; exact t1) (by rw [size_bs]; exact t2) t3 t4 wx (h7.below h (ρ _)) (h8.below h (ρ _)) t5 t6)
 have HPV := κ (fun (wx : World) (h : Below w.heap.size w wx) => printVR_c HO 0 _ [⟨nBrch, us BR, true⟩] (by omega) (by decide) (by decide) (wx.alloc (.cells #[.string ⟨#[98, 114, 97, 110, 99, 104]⟩, .string BR, .bool true] 85)) (RPrms.branch wx BR) (fun p hp => by rw [List.mem_singleton.1 hp]; exact ⟨by show nBrch.length ≤ _; decide, by dsimp only; rw [length_us]; omega⟩))
 have HPL := κ (fun (wx : World) (h : Below w.heap.size w wx) => printAR_c (bs d.loc.disp) (bs d.loc.uri.scheme) (bs d.loc.uri.user) (bs d.loc.uri.host) d.loc.uri.port _ _ _ d.loc.uri.ps d.loc.uri.hs d.loc.ps (by rw [size_bs]; exact a1) (by rw [size_bs]; exact a2) (by rw [size_bs]; exact a3) a7 a8 wx (h1.below h (ρ _)) (h2.below h (ρ _)) (h3.below h (ρ _)) a4 a5 a6)
 have HPR := κ (fun (wx : World) (h : Below w.heap.size w wx) => printAR_c (bs d.rem.disp) (bs d.rem.uri.scheme) (bs d.rem.uri.user) (bs d.rem.uri.host) d.rem.uri.port _ _ _ d.rem.uri.ps d.rem.uri.hs d.rem.ps (by rw [size_bs]; exact b1) (by rw [size_bs]; exact b2) (by rw [size_bs]; exact b3) b7 b8 wx (h4.below h (ρ _)) (h5.below h (ρ _)) (h6.below h (ρ _)) b4 b5 b6)
 simp only [us_bs] at HPU HPL HPR
 rw [show (⟨us HO, 0, [⟨nBrch, us BR, true⟩]⟩ : Hop) = hopN (us HO) (us BR) from rfl] at HPV
 have lu := printU_len d.tgt
 have lv := printV_len (hopN (us HO) (us BR))
 have la := printA_len d.loc
 have lb := printA_len d.rem
 obtain ⟨U, hU⟩ : ∃ x, x = printU d.tgt := ⟨_, rfl⟩
 obtain ⟨V, hV⟩ : ∃ x, x = printV (hopN (us HO) (us BR)) := ⟨_, rfl⟩
 obtain ⟨A, hA⟩ : ∃ x, x = printA d.loc := ⟨_, rfl⟩
 obtain ⟨B, hB⟩ : ∃ x, x = printA d.rem := ⟨_, rfl⟩
 have hcs := notifyS_cases d (us HO) (us BR) M (us BO) U V A B hU hV hA hB
 rw [← hU] at HPU lu
 rw [← hV] at HPV lv
 rw [← hA] at HPL la
 rw [← hB] at HPR lb
 clear hU hV hA hB
 obtain ⟨N, hN⟩ : ∃ x, x = notifyS d (us HO) (us BR) M (us BO) := ⟨_, rfl⟩
 rw [← hN] at hcs ⊢
 clear hN
 obtain ⟨ut, ue⟩ := U
 obtain ⟨vt, ve⟩ := V
 obtain ⟨at_, ae⟩ := A
 obtain ⟨bt, be⟩ := B
 dsimp only at HPU HPV HPL HPR lu lv la lb hcs
 have hB0 : Below w.heap.size w ((w.alloc (.cells vs 34)).alloc (.cells #[(.string ⟨#[]⟩), (.string ⟨#[]⟩), (.string ⟨#[]⟩), (.string ⟨#[]⟩), (.string ⟨#[]⟩), (.int .i64 0), (.slice none 0 0), (.slice none 0 0), (.slice none 0 0), (.string ⟨#[]⟩), (.string ⟨#[]⟩), (.string ⟨#[]⟩), (.string ⟨#[]⟩), (.int .i64 0), (.slice none 0 0), (.slice none 0 0), (.slice none 0 0), (.string ⟨#[]⟩), (.string ⟨#[]⟩), (.string ⟨#[]⟩), (.int .i64 0), (.slice none 0 0), (.slice none 0 0), (.slice none 0 0), (.int .i64 0), (.int .i64 0)] 34)) := ((Below.refl _ _).alloc (ρ _) _).alloc (by rw [World.size_alloc]; omega) _
 have bd0 : Blk ((w.alloc (.cells vs 34)).alloc (.cells #[(.string ⟨#[]⟩), (.string ⟨#[]⟩), (.string ⟨#[]⟩), (.string ⟨#[]⟩), (.string ⟨#[]⟩), (.int .i64 0), (.slice none 0 0), (.slice none 0 0), (.slice none 0 0), (.string ⟨#[]⟩), (.string ⟨#[]⟩), (.string ⟨#[]⟩), (.string ⟨#[]⟩), (.int .i64 0), (.slice none 0 0), (.slice none 0 0), (.slice none 0 0), (.string ⟨#[]⟩), (.string ⟨#[]⟩), (.string ⟨#[]⟩), (.int .i64 0), (.slice none 0 0), (.slice none 0 0), (.slice none 0 0), (.int .i64 0), (.int .i64 0)] 34)) w.heap.size 34 vs := (Blk.new w 34 vs).alloc _
 have bz0 : Blk ((w.alloc (.cells vs 34)).alloc (.cells #[(.string ⟨#[]⟩), (.string ⟨#[]⟩), (.string ⟨#[]⟩), (.string ⟨#[]⟩), (.string ⟨#[]⟩), (.int .i64 0), (.slice none 0 0), (.slice none 0 0), (.slice none 0 0), (.string ⟨#[]⟩), (.string ⟨#[]⟩), (.string ⟨#[]⟩), (.string ⟨#[]⟩), (.int .i64 0), (.slice none 0 0), (.slice none 0 0), (.slice none 0 0), (.string ⟨#[]⟩), (.string ⟨#[]⟩), (.string ⟨#[]⟩), (.int .i64 0), (.slice none 0 0), (.slice none 0 0), (.slice none 0 0), (.int .i64 0), (.int .i64 0)] 34)) (w.heap.size + 1) 34 #[(.string ⟨#[]⟩), (.string ⟨#[]⟩), (.string ⟨#[]⟩), (.string ⟨#[]⟩), (.string ⟨#[]⟩), (.int .i64 0), (.slice none 0 0), (.slice none 0 0), (.slice none 0 0), (.string ⟨#[]⟩), (.string ⟨#[]⟩), (.string ⟨#[]⟩), (.string ⟨#[]⟩), (.int .i64 0), (.slice none 0 0), (.slice none 0 0), (.slice none 0 0), (.string ⟨#[]⟩), (.string ⟨#[]⟩), (.string ⟨#[]⟩), (.int .i64 0), (.slice none 0 0), (.slice none 0 0), (.slice none 0 0), (.int .i64 0), (.int .i64 0)] := by
  have := Blk.new (w.alloc (.cells vs 34)) 34 #[(.string ⟨#[]⟩), (.string ⟨#[]⟩), (.string ⟨#[]⟩), (.string ⟨#[]⟩), (.string ⟨#[]⟩), (.int .i64 0), (.slice none 0 0), (.slice none 0 0), (.slice none 0 0), (.string ⟨#[]⟩), (.string ⟨#[]⟩), (.string ⟨#[]⟩), (.string ⟨#[]⟩), (.int .i64 0), (.slice none 0 0), (.slice none 0 0), (.slice none 0 0), (.string ⟨#[]⟩), (.string ⟨#[]⟩), (.string ⟨#[]⟩), (.int .i64 0), (.slice none 0 0), (.slice none 0 0), (.slice none 0 0), (.int .i64 0), (.int .i64 0)]
  rwa [World.size_alloc] at this
 obtain ⟨w0, hw0⟩ : ∃ w0, w0 = ((w.alloc (.cells vs 34)).alloc (.cells #[(.string ⟨#[]⟩), (.string ⟨#[]⟩), (.string ⟨#[]⟩), (.string ⟨#[]⟩), (.string ⟨#[]⟩), (.int .i64 0), (.slice none 0 0), (.slice none 0 0), (.slice none 0 0), (.string ⟨#[]⟩), (.string ⟨#[]⟩), (.string ⟨#[]⟩), (.string ⟨#[]⟩), (.int .i64 0), (.slice none 0 0), (.slice none 0 0), (.slice none 0 0), (.string ⟨#[]⟩), (.string ⟨#[]⟩), (.string ⟨#[]⟩), (.int .i64 0), (.slice none 0 0), (.slice none 0 0), (.slice none 0 0), (.int .i64 0), (.int .i64 0)] 34)) := ⟨_, rfl⟩
 rw [← hw0] at hB0 bd0 bz0
 have HW0 := κ hw0
 have HK := κ (fun (wx : World) (h : Below w0.heap.size w0 wx) => (show Blk wx (w.heap.size) 34 vs ∧ Blk wx (w.heap.size + 1) 34 #[(.string ⟨#[]⟩), (.string ⟨#[]⟩), (.string ⟨#[]⟩), (.string ⟨#[]⟩), (.string ⟨#[]⟩), (.int .i64 0), (.slice none 0 0), (.slice none 0 0), (.slice none 0 0), (.string ⟨#[]⟩), (.string ⟨#[]⟩), (.string ⟨#[]⟩), (.string ⟨#[]⟩), (.int .i64 0), (.slice none 0 0), (.slice none 0 0), (.slice none 0 0), (.string ⟨#[]⟩), (.string ⟨#[]⟩), (.string ⟨#[]⟩), (.int .i64 0), (.slice none 0 0), (.slice none 0 0), (.slice none 0 0), (.int .i64 0), (.int .i64 0)] from ⟨bd0.call h, bz0.call h⟩))
 have HX := κ (fun (wx : World) (h : Below w0.heap.size w0 wx) => (show wx.cell? ⟨w.heap.size, 0, none⟩ = some (.string (bs d.call)) ∧ wx.cell? ⟨w.heap.size, 1, none⟩ = some (.string (bs d.loc.disp)) ∧ wx.cell? ⟨w.heap.size, 2, none⟩ = some (.string (bs d.loc.uri.scheme)) ∧ wx.cell? ⟨w.heap.size, 3, none⟩ = some (.string (bs d.loc.uri.user)) ∧ wx.cell? ⟨w.heap.size, 4, none⟩ = some (.string (bs d.loc.uri.host)) ∧ wx.cell? ⟨w.heap.size, 5, none⟩ = some (.int .i64 d.loc.uri.port) ∧ wx.cell? ⟨w.heap.size, 6, none⟩ = some (.slice e1 d.loc.uri.ps.length y1) ∧ wx.cell? ⟨w.heap.size, 7, none⟩ = some (.slice e2 d.loc.uri.hs.length y2) ∧ wx.cell? ⟨w.heap.size, 8, none⟩ = some (.slice e3 d.loc.ps.length y3) ∧ wx.cell? ⟨w.heap.size, 9, none⟩ = some (.string (bs d.rem.disp)) ∧ wx.cell? ⟨w.heap.size, 10, none⟩ = some (.string (bs d.rem.uri.scheme)) ∧ wx.cell? ⟨w.heap.size, 11, none⟩ = some (.string (bs d.rem.uri.user)) ∧ wx.cell? ⟨w.heap.size, 12, none⟩ = some (.string (bs d.rem.uri.host)) ∧ wx.cell? ⟨w.heap.size, 13, none⟩ = some (.int .i64 d.rem.uri.port) ∧ wx.cell? ⟨w.heap.size, 14, none⟩ = some (.slice e4 d.rem.uri.ps.length y4) ∧ wx.cell? ⟨w.heap.size, 15, none⟩ = some (.slice e5 d.rem.uri.hs.length y5) ∧ wx.cell? ⟨w.heap.size, 16, none⟩ = some (.slice e6 d.rem.ps.length y6) ∧ wx.cell? ⟨w.heap.size, 17, none⟩ = some (.string (bs d.tgt.scheme)) ∧ wx.cell? ⟨w.heap.size, 18, none⟩ = some (.string (bs d.tgt.user)) ∧ wx.cell? ⟨w.heap.size, 19, none⟩ = some (.string (bs d.tgt.host)) ∧ wx.cell? ⟨w.heap.size, 20, none⟩ = some (.int .i64 d.tgt.port) ∧ wx.cell? ⟨w.heap.size, 21, none⟩ = some (.slice e7 d.tgt.ps.length y7) ∧ wx.cell? ⟨w.heap.size, 22, none⟩ = some (.slice e8 d.tgt.hs.length y8) ∧ wx.cell? ⟨w.heap.size, 23, none⟩ = some (.slice e9 d.routes.length y9) ∧ wx.cell? ⟨w.heap.size, 25, none⟩ = some (.int .i64 d.lout) from by
  have b := bd0.call h
  rw [ers] at b
  exact ⟨boxedCell b 0, boxedCell b 1, boxedCell b 2, boxedCell b 3, boxedCell b 4, boxedCell b 5, boxedCell b 6, boxedCell b 7, boxedCell b 8, boxedCell b 9, boxedCell b 10, boxedCell b 11, boxedCell b 12, boxedCell b 13, boxedCell b 14, boxedCell b 15, boxedCell b 16, boxedCell b 17, boxedCell b 18, boxedCell b 19, boxedCell b 20, boxedCell b 21, boxedCell b 22, boxedCell b 23, boxedCell b 25⟩))
 have HB := κ (fun (wx : World) (h : Below w0.heap.size w0 wx) => hB0.trans (h.mono hB0.size))
 have HD := κ (fun (wx : World) (h : Below w.heap.size w wx) => hd.below h (ρ _))
 have HD2 := κ (fun (wx : World) (h : Below w.heap.size w wx) => (hd.below h (ρ _)).setLout (d.lout + 1))
 have HU := κ (fun (wx : World) (h : Below w.heap.size w wx) => hu.below h (ρ _))
 have H9 := κ h9
 have HLR := κ lr
 have hZ : Below w0.heap.size w0 w0 := Below.refl _ _
 obtain ⟨ao, cap, rfl, hm1, _⟩ := hu.form
 clear hw0 hB0 bd0 bz0 ers h1 h2 h3 h4 h5 h6 h7 h8 h9 hd hu a1 a2 a3 a4 a5 a6 a7 a8 b1 b2 b3 b4 b5 b6 b7 b8 t1 t2 t3 t4 t5 t6 lr hm
 have p25 : w0.cell? ⟨w.heap.size, 25, none⟩ = some (.int .i64 d.lout) := (HX.out _ hZ).2.2.2.2.2.2.2.2.2.2.2.2.2.2.2.2.2.2.2.2.2.2.2.2
 go_enter Tryz.func29, Tryz.ntmps29
 go_upto_region 1 with fail
 rw [← HW0.out]
 clear HW0
 rcases hcs with ⟨k1, hR⟩ | ⟨k1, k2, hR⟩ | hcs
 case' inl => have HR := κ hR
 case' inl => clear hR
 case' inr.inl => have HR := κ hR
 case' inr.inl => clear hR
 rotate_left 2
 have k1 : ¬ d.lout < 0 := by rcases hcs with h | h <;> exact h.1
 have k2 : ¬ 2147483647 ≤ d.lout := by rcases hcs with h | h <;> exact h.2.1
 have HCS := κ (fun wx => cseqR_c (d.lout + 1) (by omega) (by omega) ⟨#[78, 79, 84, 73, 70, 89]⟩ (by decide) wx)
 rw [show us ⟨#[78, 79, 84, 73, 70, 89]⟩ = nNotify from rfl] at HCS
 have ls := cseqS_len (d.lout + 1)
 have HC := κ (show (firstI [ue, ve, ae, be] ≠ 0 ∧ N = ([], d, firstI [ue, ve, ae, be])) ∨ (firstI [ue, ve, ae, be] = 0 ∧ N = endN d (printM (msgN ut vt at_ bt d (us HO) M (us BO)))) by
  rcases hcs with h | h
  ·exact .inl h.2.2
  ·exact .inr h.2.2)
 clear hcs
 obtain ⟨SQ, hSQ⟩ : ∃ x, x = cseqS (d.lout + 1) nNotify := ⟨_, rfl⟩
 rw [← hSQ] at HCS ls
 have HSQ := κ hSQ
 clear hSQ
 obtain ⟨st, se⟩ := SQ
 dsimp only at HCS ls
 obtain ⟨UB, hUB⟩ : ∃ x, x = bs ut := ⟨_, rfl⟩
 obtain ⟨VB, hVB⟩ : ∃ x, x = bs vt := ⟨_, rfl⟩
 obtain ⟨AB, hAB⟩ : ∃ x, x = bs at_ := ⟨_, rfl⟩
 obtain ⟨BB, hBB⟩ : ∃ x, x = bs bt := ⟨_, rfl⟩
 obtain ⟨SB, hSB⟩ : ∃ x, x = bs st := ⟨_, rfl⟩
 rw [← hUB] at HPU
 rw [← hVB] at HPV
 rw [← hAB] at HPL
 rw [← hBB] at HPR
 rw [← hSB] at HCS
 have HTX := κ (show us UB = ut ∧ us VB = vt ∧ us AB = at_ ∧ us BB = bt ∧ us SB = st from ⟨by rw [hUB, us_bs], by rw [hVB, us_bs], by rw [hAB, us_bs], by rw [hBB, us_bs], by rw [hSB, us_bs]⟩)
 have sUB : UB.size ≤ 18000 := by rw [hUB, size_bs]; exact lu
 clear hUB hVB hAB hBB hSB lu
 focus
  clear p25
  obtain ⟨_, _, _, _, _, _, _, _, _, _, _, _, _, _, _, _, _, p17, p18, p19, p20, p21, p22, _, _⟩ := HX.out _ hZ
  go_upto_region 4 with (go_at_call 72; refine (HPU.out _ (HB.out _ hZ)).mono ?_; rintro e z2 ⟨rfl, hC2⟩; have hZ' := zUp hZ hZ.size hC2; clear hZ; have hZ := hZ'; clear hZ')
  clear HPU hC2 p17 p18 p19 p20 p21 p22
  by_cases hv0 : ue ≠ 0
  ·have HR := κ (show N = ([], d, ue) by rcases HC.out with ⟨_, h⟩ | ⟨h, _⟩; (rw [h]; simp [firstI, hv0]); (simp [firstI, hv0] at h))
   have t7 : (ue != 0) = true := by simpa using hv0
   clear HC hv0
   go_upto_region 5 with fail
   refine wp_region_held_drew (S := fun wx => Blk wx (w.heap.size) 34 vs) (by kernel_rfl) (HK.out _ (zDrew hZ)).1 (fun hHeld => ?_)
   refine tkH 0 ?_ (v := .agg vs) (hy := by intro wx hSw; refine run_loadN rfl ?_ Tryz.underlying34 ?_ hSw; (focus rfl); (focus (rw [s26]; rfl)))
   try simp only [Act.put, agS]
   refine tkH 1 ?_
   try simp only [Act.put, agS]
   refine tkH 2 ?_
   try simp only [Act.put, agS]
   refine rdyH 3 (fun K hK => ?_)
   rw [if_pos (by rfl)]
   refine wp_store_row _ _ _ rfl _ vs rfl rfl _ _ (HK.out _ (by first | exact hZ | exact zDrew hZ)).2 (by rw [s26]; rfl) (by rw [s26]; rfl) (by rw [← one]; simp) ?_
   try go_simp
   refine hK.out _ _ ?_ (fun hHeld => ?_)
   focus ((try dsimp only); first | exact (HK.out _ hZ).1 | exact (HK.out _ (zDrew hZ)).1 | exact rowFarN (HK.out _ (by first | exact hZ | exact zDrew hZ)).1 (show w.heap.size ≠ w.heap.size + 1 by omega) _)
   clear hK K
   try simp only [Act.put, agS]
   refine tkH 4 ?_
   try simp only [Act.put, agS]
   refine wpAnyH_done (by kernel_rfl) ?_ _
   go_wp2
   have bz9 : Blk (World.setRow _ (w.heap.size + 1) vs) (w.heap.size + 1) 34 vs := Blk.row (HK.out _ (zDrew hZ)).2 _
   refine bodyPost_ret (results_tct rfl rfl rfl rfl Tryz.underlying34 (by rw [s26]; rfl) bz9) rfl ?_
   have hBf := Below.setRow (HB.out _ (zDrew hZ)) (show w.heap.size ≤ w.heap.size + 1 by omega) vs
   refine ⟨vs, by rw [HR.out]; rfl, by rw [HR.out]; exact HD.out _ hBf, hBf⟩
  obtain rfl : ue = 0 := Classical.not_not.1 hv0
  clear hv0
  go_upto_region 7 with (go_at_call 73; refine (HPV.out _ (HB.out _ hZ)).mono ?_; rintro e z3 ⟨rfl, hC3⟩; replace hZ := hZ.alloc hZ.size (.cells #[.string ⟨#[98, 114, 97, 110, 99, 104]⟩, .string BR, .bool true] 85); have hZ' := zUp hZ hZ.size hC3; clear hZ; have hZ := hZ'; clear hZ')
  clear HPV hC3
  by_cases hv0 : ve ≠ 0
  ·have HR := κ (show N = ([], d, ve) by rcases HC.out with ⟨_, h⟩ | ⟨h, _⟩; (rw [h]; simp [firstI, hv0]); (simp [firstI, hv0] at h))
   have t7 : (ve != 0) = true := by simpa using hv0
   clear HC hv0
   go_upto_region 8 with fail
   refine wp_region_held_drew (S := fun wx => Blk wx (w.heap.size) 34 vs) (by kernel_rfl) (HK.out _ (zDrew hZ)).1 (fun hHeld => ?_)
   refine tkH 0 ?_ (v := .agg vs) (hy := by intro wx hSw; refine run_loadN rfl ?_ Tryz.underlying34 ?_ hSw; (focus rfl); (focus (rw [s26]; rfl)))
   try simp only [Act.put, agS]
   refine tkH 1 ?_
   try simp only [Act.put, agS]
   refine tkH 2 ?_
   try simp only [Act.put, agS]
   refine rdyH 3 (fun K hK => ?_)
   rw [if_pos (by rfl)]
   refine wp_store_row _ _ _ rfl _ vs rfl rfl _ _ (HK.out _ (by first | exact hZ | exact zDrew hZ)).2 (by rw [s26]; rfl) (by rw [s26]; rfl) (by rw [← one]; simp) ?_
   try go_simp
   refine hK.out _ _ ?_ (fun hHeld => ?_)
   focus ((try dsimp only); first | exact (HK.out _ hZ).1 | exact (HK.out _ (zDrew hZ)).1 | exact rowFarN (HK.out _ (by first | exact hZ | exact zDrew hZ)).1 (show w.heap.size ≠ w.heap.size + 1 by omega) _)
   clear hK K
   try simp only [Act.put, agS]
   refine tkH 4 ?_
   try simp only [Act.put, agS]
   refine wpAnyH_done (by kernel_rfl) ?_ _
   go_wp2
   have bz9 : Blk (World.setRow _ (w.heap.size + 1) vs) (w.heap.size + 1) 34 vs := Blk.row (HK.out _ (zDrew hZ)).2 _
   refine bodyPost_ret (results_tct rfl rfl rfl rfl Tryz.underlying34 (by rw [s26]; rfl) bz9) rfl ?_
   have hBf := Below.setRow (HB.out _ (zDrew hZ)) (show w.heap.size ≤ w.heap.size + 1 by omega) vs
   refine ⟨vs, by rw [HR.out]; rfl, by rw [HR.out]; exact HD.out _ hBf, hBf⟩
  obtain rfl : ve = 0 := Classical.not_not.1 hv0
  clear hv0
  obtain ⟨_, p1, p2, p3, p4, p5, p6, p7, p8, _, _, _, _, _, _, _, _, _, _, _, _, _, _, _, _⟩ := HX.out _ hZ
  go_upto_region 10 with (go_at_call 74; refine (HPL.out _ (HB.out _ hZ)).mono ?_; rintro e z4 ⟨rfl, hC4⟩; have hZ' := zUp hZ hZ.size hC4; clear hZ; have hZ := hZ'; clear hZ')
  clear HPL hC4 p1 p2 p3 p4 p5 p6 p7 p8
  by_cases hv0 : ae ≠ 0
  ·have HR := κ (show N = ([], d, ae) by rcases HC.out with ⟨_, h⟩ | ⟨h, _⟩; (rw [h]; simp [firstI, hv0]); (simp [firstI, hv0] at h))
   have t7 : (ae != 0) = true := by simpa using hv0
   clear HC hv0
   go_upto_region 11 with fail
   refine wp_region_held_drew (S := fun wx => Blk wx (w.heap.size) 34 vs) (by kernel_rfl) (HK.out _ (zDrew hZ)).1 (fun hHeld => ?_)
   refine tkH 0 ?_ (v := .agg vs) (hy := by intro wx hSw; refine run_loadN rfl ?_ Tryz.underlying34 ?_ hSw; (focus rfl); (focus (rw [s26]; rfl)))
   try simp only [Act.put, agS]
   refine tkH 1 ?_
   try simp only [Act.put, agS]
   refine tkH 2 ?_
   try simp only [Act.put, agS]
   refine rdyH 3 (fun K hK => ?_)
   rw [if_pos (by rfl)]
   refine wp_store_row _ _ _ rfl _ vs rfl rfl _ _ (HK.out _ (by first | exact hZ | exact zDrew hZ)).2 (by rw [s26]; rfl) (by rw [s26]; rfl) (by rw [← one]; simp) ?_
   try go_simp
   refine hK.out _ _ ?_ (fun hHeld => ?_)
   focus ((try dsimp only); first | exact (HK.out _ hZ).1 | exact (HK.out _ (zDrew hZ)).1 | exact rowFarN (HK.out _ (by first | exact hZ | exact zDrew hZ)).1 (show w.heap.size ≠ w.heap.size + 1 by omega) _)
   clear hK K
   try simp only [Act.put, agS]
   refine tkH 4 ?_
   try simp only [Act.put, agS]
   refine wpAnyH_done (by kernel_rfl) ?_ _
   go_wp2
   have bz9 : Blk (World.setRow _ (w.heap.size + 1) vs) (w.heap.size + 1) 34 vs := Blk.row (HK.out _ (zDrew hZ)).2 _
   refine bodyPost_ret (results_tct rfl rfl rfl rfl Tryz.underlying34 (by rw [s26]; rfl) bz9) rfl ?_
   have hBf := Below.setRow (HB.out _ (zDrew hZ)) (show w.heap.size ≤ w.heap.size + 1 by omega) vs
   refine ⟨vs, by rw [HR.out]; rfl, by rw [HR.out]; exact HD.out _ hBf, hBf⟩
  obtain rfl : ae = 0 := Classical.not_not.1 hv0
  clear hv0
  obtain ⟨_, _, _, _, _, _, _, _, _, p9, p10, p11, p12, p13, p14, p15, p16, _, _, _, _, _, _, _, _⟩ := HX.out _ hZ
  go_upto_region 13 with (go_at_call 74; refine (HPR.out _ (HB.out _ hZ)).mono ?_; rintro e z5 ⟨rfl, hC5⟩; have hZ' := zUp hZ hZ.size hC5; clear hZ; have hZ := hZ'; clear hZ')
  clear HPR hC5 p9 p10 p11 p12 p13 p14 p15 p16
  by_cases hv0 : be ≠ 0
  ·have HR := κ (show N = ([], d, be) by rcases HC.out with ⟨_, h⟩ | ⟨h, _⟩; (rw [h]; simp [firstI, hv0]); (simp [firstI, hv0] at h))
   have t7 : (be != 0) = true := by simpa using hv0
   clear HC hv0
   go_upto_region 14 with fail
   refine wp_region_held_drew (S := fun wx => Blk wx (w.heap.size) 34 vs) (by kernel_rfl) (HK.out _ (zDrew hZ)).1 (fun hHeld => ?_)
   refine tkH 0 ?_ (v := .agg vs) (hy := by intro wx hSw; refine run_loadN rfl ?_ Tryz.underlying34 ?_ hSw; (focus rfl); (focus (rw [s26]; rfl)))
   try simp only [Act.put, agS]
   refine tkH 1 ?_
   try simp only [Act.put, agS]
   refine tkH 2 ?_
   try simp only [Act.put, agS]
   refine rdyH 3 (fun K hK => ?_)
   rw [if_pos (by rfl)]
   refine wp_store_row _ _ _ rfl _ vs rfl rfl _ _ (HK.out _ (by first | exact hZ | exact zDrew hZ)).2 (by rw [s26]; rfl) (by rw [s26]; rfl) (by rw [← one]; simp) ?_
   try go_simp
   refine hK.out _ _ ?_ (fun hHeld => ?_)
   focus ((try dsimp only); first | exact (HK.out _ hZ).1 | exact (HK.out _ (zDrew hZ)).1 | exact rowFarN (HK.out _ (by first | exact hZ | exact zDrew hZ)).1 (show w.heap.size ≠ w.heap.size + 1 by omega) _)
   clear hK K
   try simp only [Act.put, agS]
   refine tkH 4 ?_
   try simp only [Act.put, agS]
   refine wpAnyH_done (by kernel_rfl) ?_ _
   go_wp2
   have bz9 : Blk (World.setRow _ (w.heap.size + 1) vs) (w.heap.size + 1) 34 vs := Blk.row (HK.out _ (zDrew hZ)).2 _
   refine bodyPost_ret (results_tct rfl rfl rfl rfl Tryz.underlying34 (by rw [s26]; rfl) bz9) rfl ?_
   have hBf := Below.setRow (HB.out _ (zDrew hZ)) (show w.heap.size ≤ w.heap.size + 1 by omega) vs
   refine ⟨vs, by rw [HR.out]; rfl, by rw [HR.out]; exact HD.out _ hBf, hBf⟩
  obtain rfl : be = 0 := Classical.not_not.1 hv0
  clear hv0
  have hN : N = endN d (printM (msgN ut vt at_ bt d (us HO) M (us BO))) := by rcases HC.out with ⟨h, _⟩ | ⟨_, h⟩; (exact absurd (by simp [firstI]) h); (exact h)
  clear HC
  go_upto_region 16 with fail
  have hv := Hdrs.two z5 w0.heap.size hZ.size ⟨#[86, 105, 97]⟩ VB ⟨#[77, 97, 120, 45, 70, 111, 114, 119, 97, 114, 100, 115]⟩ ⟨#[55, 48]⟩
  rw [HTX.out.2.1, show us ⟨#[86, 105, 97]⟩ = nVia from rfl, show us ⟨#[77, 97, 120, 45, 70, 111, 114, 119, 97, 114, 100, 115]⟩ = nMaxF from rfl, show us ⟨#[55, 48]⟩ = n70 from rfl] at hv
  replace hZ := hZ.alloc hZ.size (.cells #[.string ⟨#[86, 105, 97]⟩, .string VB, .string ⟨#[77, 97, 120, 45, 70, 111, 114, 119, 97, 114, 100, 115]⟩, .string ⟨#[55, 48]⟩] 68)
  obtain ⟨a9, c9, e9, hm9, cc9⟩ := H9.out.form
  injection e9 with e9 _ e9c
  subst e9 e9c
  unfold maxLen at hm9
  have HC9 := κ cc9
  clear cc9
  go_wp2
  go_loopw [18, 19] (fun v i wr => ∃ k : Nat, k ≤ d.routes.length ∧ i = .int .i64 k ∧ Hdrs wr w0.heap.size v (hdrs1 vt (d.routes.take k)) ∧ Below w0.heap.size w0 wr) (fun _ i _ => d.routes.length - (intOf i).toNat)
  case atStart => exact ⟨0, Nat.zero_le _, rfl, hv, hZ⟩
  clear hv hZ
  case round =>
   obtain ⟨k, hk, rfl, hv, hZ⟩ := hrel
   have hlen : (hdrs1 vt (d.routes.take k)).length ≤ 1048600 := by simp [hdrs1, routesN]; omega
   have p23 := (HX.out _ hZ).2.2.2.2.2.2.2.2.2.2.2.2.2.2.2.2.2.2.2.2.2.2.2.1
   by_cases hlt : k < d.routes.length
   ·obtain ⟨b, off, eb, hbl, hc1⟩ := HC9.out (by omega)
    have x0 := hc1 k hlt
    have hcw : wr.cell? ⟨b, off + k, none⟩ = w.cell? ⟨b, off + k, none⟩ := World.cell?_of_block (w := w) (a := ⟨b, off + k, none⟩) ((HB.out _ hZ).block b hbl)
    rw [← hcw] at x0
    have hstep := hdrs1_take vt d.routes k hlt
    obtain ⟨s, hs⟩ : ∃ s, s = bs d.routes[k] := ⟨_, rfl⟩
    have hus : us s = d.routes[k] := by rw [hs, us_bs]
    rw [← hs] at x0
    rw [← hus] at hstep
    have HST := κ hstep
    subst eb
    have k3 : (0 : Int) ≤ (k : Int) := by omega
    have k4 : (k : Int) < (d.routes.length : Int) := by omega
    clear hc1 hcw hs hus hstep
    go_wp2_with (at_builtin; refine wpList_appH1 ⟨us ⟨#[82, 111, 117, 116, 101]⟩, us s⟩ rfl rfl rfl rfl Tryz.underlying43 infoH rfl rfl hv hZ (ρ _) (by omega) ?_; intro v' w' hv' hZ'; clear hv hZ; have hv := hv'; have hZ := hZ'; clear hv' hZ')
    go_roundw
    case rel => exact ⟨k + 1, by omega, by go_num, by rw [HST.out]; exact hv, hZ⟩
    case measure => simp [intOf]; omega
   ·rw [List.take_of_length_le (by omega)] at hv hlen
    have hkl : k = d.routes.length := by omega
    subst hkl
    clear HC9 hlt
    go_upto_region 20 with fail
    clear p23
    have p25 := (HX.out _ hZ).2.2.2.2.2.2.2.2.2.2.2.2.2.2.2.2.2.2.2.2.2.2.2.2
    go_upto_region 21 with (go_at_call 75; refine (HCS.out _).mono ?_; rintro e z6 ⟨rfl, hC6⟩; have hv := hv.below hC6 (ρ _); have hZ' := zUp hZ hZ.size hC6; clear hZ; have hZ := hZ'; clear hZ')
    clear p25 HCS hC6
    go_upto_region 22 with (at_builtin; refine wpList_appH1 ⟨us ⟨#[70, 114, 111, 109]⟩, us AB⟩ rfl rfl rfl rfl Tryz.underlying43 infoH rfl rfl hv hZ (ρ _) (by first | omega | (simp only [List.length_append, List.length_cons, List.length_nil]; omega)) ?_; intro v' w' hv' hZ'; clear hv hZ; have hv := hv'; have hZ := hZ'; clear hv' hZ')
    go_upto_region 23 with (at_builtin; refine wpList_appH1 ⟨us ⟨#[84, 111]⟩, us BB⟩ rfl rfl rfl rfl Tryz.underlying43 infoH rfl rfl hv hZ (ρ _) (by first | omega | (simp only [List.length_append, List.length_cons, List.length_nil]; omega)) ?_; intro v' w' hv' hZ'; clear hv hZ; have hv := hv'; have hZ := hZ'; clear hv' hZ')
    have p0 := (HX.out _ hZ).1
    go_upto_region 24 with (at_builtin; refine wpList_appH1 ⟨us ⟨#[67, 97, 108, 108, 45, 73, 68]⟩, us (bs d.call)⟩ rfl rfl rfl rfl Tryz.underlying43 infoH rfl rfl hv hZ (ρ _) (by first | omega | (simp only [List.length_append, List.length_cons, List.length_nil]; omega)) ?_; intro v' w' hv' hZ'; clear hv hZ; have hv := hv'; have hZ := hZ'; clear hv' hZ')
    clear p0
    go_upto_region 25 with (at_builtin; refine wpList_appH1 ⟨us ⟨#[67, 83, 101, 113]⟩, us SB⟩ rfl rfl rfl rfl Tryz.underlying43 infoH rfl rfl hv hZ (ρ _) (by first | omega | (simp only [List.length_append, List.length_cons, List.length_nil]; omega)) ?_; intro v' w' hv' hZ'; clear hv hZ; have hv := hv'; have hZ := hZ'; clear hv' hZ')
    go_upto_region 26 with (at_builtin; refine wpList_appH1 ⟨us ⟨#[67, 111, 110, 116, 97, 99, 116]⟩, us (⟨#[60, 115, 105, 112, 58]⟩ ++ HO ++ ⟨#[62]⟩)⟩ rfl rfl rfl rfl Tryz.underlying43 infoH rfl rfl hv hZ (ρ _) (by first | omega | (simp only [List.length_append, List.length_cons, List.length_nil]; omega)) ?_; intro v' w' hv' hZ'; clear hv hZ; have hv := hv'; have hZ := hZ'; clear hv' hZ')
    have hv2 : Hdrs w' w0.heap.size v' (hdrsN vt at_ bt st d (us HO)) := by
     have h := hv; rw [HTX.out.2.2.1, HTX.out.2.2.2.1, HTX.out.2.2.2.2, us_append, us_append, us_bs] at h; exact h
    clear hv hlen
    have hMU := HU.out _ (HB.out _ hZ)
    obtain ⟨PR, hPR⟩ : ∃ x, x = printM (msgN ut vt at_ bt d (us HO) M (us BO)) := ⟨_, rfl⟩
    rw [← hPR] at hN
    have HPF := κ (fun (wx : World) uu hh => printR_c ⟨#[78, 79, 84, 73, 70, 89]⟩ UB ⟨#[]⟩ BO 0 uu (hdrsN vt at_ bt st d (us HO) ++ M) (by decide) (by omega) (by decide) lO (by decide) (by decide) wx hh (HdB.all (by omega) (by omega) (by omega) (by omega) (by rw [length_us]; exact lH) lc HLR.out hM))
    have hmsg : (⟨us ⟨#[78, 79, 84, 73, 70, 89]⟩, us UB, 0, us ⟨#[]⟩, hdrsN vt at_ bt st d (us HO) ++ M, us BO⟩ : Mg) = msgN ut vt at_ bt d (us HO) M (us BO) := by rw [HTX.out.1]; unfold msgN; rw [← HSQ.out]; rfl
    rw [hmsg, ← hPR] at HPF
    clear hmsg hPR HTX HLR HSQ
    obtain ⟨rt, rc⟩ := PR
    dsimp only at HPF
    have HN := κ hN
    clear hN
    have hlh : (hdrsN vt at_ bt st d (us HO)).length ≤ 1048610 := by simp [hdrsN, hdrs1, routesN]; omega
    go_upto_region 28 with (first | (at_builtin; refine wpList_appHs rfl rfl Tryz.underlying43 infoH rfl hMU rfl hv2 hZ (ρ _) (by omega) ?_; intro v6 w6 hv6 hZ'; obtain ⟨a6, n6, c6, rfl⟩ := hdrs_any hv6; clear hZ; have hZ := hZ'; clear hZ') | (go_at_call 76; refine (HPF.out _ _ hv6.read).mono ?_; rintro e z7 ⟨rfl, hC7⟩; have hZ' := zUp hZ hZ.size hC7; clear hZ hC7; have hZ := hZ'; clear hZ'))
    clear HPF hv2 hMU hlh
    by_cases hrc : rc = 0
    ·subst hrc
     have HR := κ (show N = (rt, dNext d, 0) by rw [HN.out]; unfold endN; rw [if_neg (fun h => h rfl)])
     clear HN
     have p25 : z7.cell? ⟨w.heap.size, 25, none⟩ = some (.int .i64 d.lout) := (HX.out _ hZ).2.2.2.2.2.2.2.2.2.2.2.2.2.2.2.2.2.2.2.2.2.2.2.2
     have f25 := boxedFree (HK.out _ hZ).1 25
     go_upto_region 31 with fail
     have bd2 : Blk _ (w.heap.size) 34 (vs.setIfInBounds 25 (.int .i64 (d.lout + 1))) := (HK.out _ hZ).1.set_ 25 (.int .i64 (d.lout + 1))
     have bz2 := (HK.out _ hZ).2.far (p := ⟨w.heap.size, 25, none⟩) (show w.heap.size + 1 ≠ w.heap.size by omega) (.int .i64 (d.lout + 1))
     have hB2 := (HB.out _ hZ).setCell (p := ⟨w.heap.size, 25, none⟩) (ρ _) (.int .i64 (d.lout + 1))
     have one2 : ((vs.setIfInBounds 25 (.int .i64 (d.lout + 1))).toList.all fun v => v.oneCell') = true := all_setN one rfl
     have s26' : (vs.setIfInBounds 25 (.int .i64 (d.lout + 1))).size = 26 := by rw [Array.size_setIfInBounds, s26]
     obtain ⟨ws, hws⟩ : ∃ x, x = vs.setIfInBounds 25 (.int .i64 (d.lout + 1)) := ⟨_, rfl⟩
     rw [← hws] at bd2 one2 s26' HD2
     obtain ⟨w12, hw12⟩ : ∃ x, x = z7.setCell ⟨w.heap.size, 25, none⟩ (.int .i64 (d.lout + 1)) := ⟨_, rfl⟩
     rw [← hw12] at bd2 bz2 hB2
     (try rw [← hw12])
     clear hw12 hws p25 f25
     have HK2 := κ (fun (wx : World) (h : Below w12.heap.size w12 wx) => (show Blk wx (w.heap.size) 34 ws ∧ Blk wx (w.heap.size + 1) 34 #[(.string ⟨#[]⟩), (.string ⟨#[]⟩), (.string ⟨#[]⟩), (.string ⟨#[]⟩), (.string ⟨#[]⟩), (.int .i64 0), (.slice none 0 0), (.slice none 0 0), (.slice none 0 0), (.string ⟨#[]⟩), (.string ⟨#[]⟩), (.string ⟨#[]⟩), (.string ⟨#[]⟩), (.int .i64 0), (.slice none 0 0), (.slice none 0 0), (.slice none 0 0), (.string ⟨#[]⟩), (.string ⟨#[]⟩), (.string ⟨#[]⟩), (.int .i64 0), (.slice none 0 0), (.slice none 0 0), (.slice none 0 0), (.int .i64 0), (.int .i64 0)] from ⟨bd2.call h, bz2.call h⟩))
     have hZ2 : Below w12.heap.size w12 w12 := Below.refl _ _
     have HB2 := κ hB2
     clear bd2 bz2 hB2
     refine wp_region_held_drew (S := fun wx => Blk wx (w.heap.size) 34 ws) (by kernel_rfl) (HK2.out _ (zDrew hZ2)).1 (fun hHeld => ?_)
     refine tkH 0 ?_
     try simp only [Act.put, agS]
     refine tkH 1 ?_ (v := .agg ws) (hy := by intro wx hSw; refine run_loadN rfl ?_ Tryz.underlying34 ?_ hSw; (focus rfl); (focus (rw [s26']; rfl)))
     try simp only [Act.put, agS]
     refine tkH 2 ?_
     try simp only [Act.put, agS]
     refine rdyH 3 (fun K hK => ?_)
     rw [if_pos (by rfl)]
     refine wp_store_row _ _ _ rfl _ ws rfl rfl _ _ (HK2.out _ (by first | exact hZ2 | exact zDrew hZ2)).2 (by rw [s26']; rfl) (by rw [s26']; rfl) (by rw [← one2]; simp) ?_
     try go_simp
     refine hK.out _ _ ?_ (fun hHeld => ?_)
     focus ((try dsimp only); first | exact (HK2.out _ hZ2).1 | exact (HK2.out _ (zDrew hZ2)).1 | exact rowFarN (HK2.out _ (by first | exact hZ2 | exact zDrew hZ2)).1 (show w.heap.size ≠ w.heap.size + 1 by omega) _)
     clear hK K
     try simp only [Act.put, agS]
     refine tkH 4 ?_
     try simp only [Act.put, agS]
     refine wpAnyH_done (by kernel_rfl) ?_ _
     go_wp2
     have bz9 : Blk (World.setRow _ (w.heap.size + 1) ws) (w.heap.size + 1) 34 ws := Blk.row (HK2.out _ (zDrew hZ2)).2 _
     refine bodyPost_ret (results_tct rfl rfl rfl rfl Tryz.underlying34 (by rw [s26']; rfl) bz9) rfl ?_
     have hBf := Below.setRow (zDrew HB2.out) (show w.heap.size ≤ w.heap.size + 1 by omega) ws
     refine ⟨ws, by rw [HR.out]; rfl, by rw [HR.out]; exact HD2.out _ hBf, hBf⟩
    ·have HR := κ (show N = ([], d, rc) by rw [HN.out]; unfold endN; rw [if_pos hrc])
     have t7 : (rc != 0) = true := by simpa using hrc
     clear HN hrc
     go_upto_region 29 with fail
     refine wp_region_held_drew (S := fun wx => Blk wx (w.heap.size) 34 vs) (by kernel_rfl) (HK.out _ (zDrew hZ)).1 (fun hHeld => ?_)
     refine tkH 0 ?_ (v := .agg vs) (hy := by intro wx hSw; refine run_loadN rfl ?_ Tryz.underlying34 ?_ hSw; (focus rfl); (focus (rw [s26]; rfl)))
     try simp only [Act.put, agS]
     refine tkH 1 ?_
     try simp only [Act.put, agS]
     refine tkH 2 ?_
     try simp only [Act.put, agS]
     refine rdyH 3 (fun K hK => ?_)
     rw [if_pos (by rfl)]
     refine wp_store_row _ _ _ rfl _ vs rfl rfl _ _ (HK.out _ (by first | exact hZ | exact zDrew hZ)).2 (by rw [s26]; rfl) (by rw [s26]; rfl) (by rw [← one]; simp) ?_
     try go_simp
     refine hK.out _ _ ?_ (fun hHeld => ?_)
     focus ((try dsimp only); first | exact (HK.out _ hZ).1 | exact (HK.out _ (zDrew hZ)).1 | exact rowFarN (HK.out _ (by first | exact hZ | exact zDrew hZ)).1 (show w.heap.size ≠ w.heap.size + 1 by omega) _)
     clear hK K
     try simp only [Act.put, agS]
     refine tkH 4 ?_
     try simp only [Act.put, agS]
     refine wpAnyH_done (by kernel_rfl) ?_ _
     go_wp2
     have bz9 : Blk (World.setRow _ (w.heap.size + 1) vs) (w.heap.size + 1) 34 vs := Blk.row (HK.out _ (zDrew hZ)).2 _
     refine bodyPost_ret (results_tct rfl rfl rfl rfl Tryz.underlying34 (by rw [s26]; rfl) bz9) rfl ?_
     have hBf := Below.setRow (HB.out _ (zDrew hZ)) (show w.heap.size ≤ w.heap.size + 1 by omega) vs
     refine ⟨vs, by rw [HR.out]; rfl, by rw [HR.out]; exact HD.out _ hBf, hBf⟩
 all_goals
  go_upto_region 2 with fail
  refine wp_region_held_drew (S := fun wx => Blk wx (w.heap.size) 34 vs) (by kernel_rfl) (HK.out _ (zDrew hZ)).1 (fun hHeld => ?_)
  refine tkH 0 ?_ (v := .agg vs) (hy := by intro wx hSw; refine run_loadN rfl ?_ Tryz.underlying34 ?_ hSw; (focus rfl); (focus (rw [s26]; rfl)))
  try simp only [Act.put, agS]
  refine tkH 1 ?_
  try simp only [Act.put, agS]
  refine rdyH 2 (fun K hK => ?_)
  rw [if_pos (by rfl)]
  refine wp_store_row _ _ _ rfl _ vs rfl rfl _ _ (HK.out _ (by first | exact hZ | exact zDrew hZ)).2 (by rw [s26]; rfl) (by rw [s26]; rfl) (by rw [← one]; simp) ?_
  try go_simp
  refine hK.out _ _ ?_ (fun hHeld => ?_)
  focus ((try dsimp only); first | exact (HK.out _ hZ).1 | exact (HK.out _ (zDrew hZ)).1 | exact rowFarN (HK.out _ (by first | exact hZ | exact zDrew hZ)).1 (show w.heap.size ≠ w.heap.size + 1 by omega) _)
  clear hK K
  try simp only [Act.put, agS]
  refine tkH 3 ?_
  try simp only [Act.put, agS]
  refine wpAnyH_done (by kernel_rfl) ?_ _
  go_wp2
  have bz9 : Blk (World.setRow _ (w.heap.size + 1) vs) (w.heap.size + 1) 34 vs := Blk.row (HK.out _ (zDrew hZ)).2 _
  refine bodyPost_ret (results_tct rfl rfl rfl rfl Tryz.underlying34 (by rw [s26]; rfl) bz9) rfl ?_
  have hBf := Below.setRow (HB.out _ (zDrew hZ)) (show w.heap.size ≤ w.heap.size + 1 by omega) vs
  refine ⟨vs, by rw [HR.out]; rfl, by rw [HR.out]; exact HD.out _ hBf, hBf⟩
end Go.Proofs.YtipdiddjhimdcaaGreatDoor
