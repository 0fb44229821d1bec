/- Contracts of Go functions, and plain laws. No condition but those told. -/
import Derived.Test.YtgkilllbkljibaaGreatDoorRfl
import Derived.Test.YtgkilllbkljibaaGreatDoorRrb
set_option linter.unusedSimpArgs false
set_option linter.unusedVariables false
set_option maxRecDepth 100000
namespace Go.Proofs.YtgkilllbkljibaaGreatDoor
open Go.RowKit Go.Sort
theorem RRqt.noB {w : World} {rs : Array Value} {r : Rqt} (h : RRqt w (.agg rs) r) : (rs.toList.all fun x => !isBool x) = true := by
 obtain ⟨u1, u2, u3, u4, u5, u6, u7, u8, u9, u10, u11, u12, e, h1, h2, h3, h4, h5, h6, h7, h8, h9, h10, h11, h12⟩ := h
 obtain ⟨_, _, rfl, _⟩ := h1.form
 obtain ⟨_, _, rfl, _⟩ := h2.form
 obtain ⟨_, _, rfl, _⟩ := h3.form
 obtain ⟨_, _, rfl, _⟩ := h4.form
 obtain ⟨_, _, rfl, _⟩ := h5.form
 obtain ⟨_, _, rfl, _⟩ := h6.form
 obtain ⟨_, _, rfl, _⟩ := h7.form
 obtain ⟨_, _, rfl, _⟩ := h8.form
 obtain ⟨_, _, rfl, _⟩ := h9.form
 obtain ⟨_, _, rfl, _⟩ := h10.form
 obtain ⟨_, _, rfl, _⟩ := h11.form
 obtain ⟨_, _, rfl, _⟩ := h12.form
 injection e with e
 subst e
 kernel_rfl
theorem RQF.make {g1 g2 : Nat} {w : World} {rs c1 c2 : Array Value} {t1 t2 : TypeId} {r : Rqt} {v : Value} (h : RRqt w (.agg rs) r) (hv : rs[32]? = some v) (hc : RAdrsF (g2 + 1) w v r.contact) (hro : r.routes = []) (hac : r.accept = []) (b1 : Blk w g1 t1 c1) (n1 : (c1.toList.all fun x => !isBool x) = true) (b2 : Blk w g2 t2 c2) (n2 : (c2.toList.all fun x => !isBool x) = true) : RQF g1 g2 w (.agg rs) r := by
 obtain ⟨u1, u2, u3, u4, u5, u6, u7, u8, u9, u10, u11, u12, e, h1, h2, h3, h4, h5, h6, h7, h8, h9, h10, h11, h12⟩ := h
 have mk : ∀ {u : Value} {L : List Prm}, RPrms w u L → RP2 g1 g2 w u L := fun h => ⟨h, Off.noBool h b1 n1, Off.noBool h b2 n2⟩
 have e' := e
 injection e' with e'
 rw [e'] at hv
 have hv' : u10 = v := by simpa using hv
 subst hv'
 rw [hro] at h11
 rw [hac] at h12
 refine ⟨u1, u2, u3, u4, u5, u6, u7, u8, u9, u10, u11, u12, e, mk h1, mk h2, mk h3, mk h4, mk h5, mk h6, mk h7, mk h8, mk h9, hc, ?_, ?_⟩
 ·rw [hro]; exact RS2.nil h11
 ·rw [hac]; exact RS2.nil h12
structure NSt (w : World) (gz gr : Nat) (msg rs : Array Value) (wr : World) : Prop where
 bm : Blk wr w.heap.size 24 msg
 b2 : Blk wr (w.heap.size + 1) 37 zrow
 bz : Blk wr gz 37 zrow
 br : Blk wr gr 37 rs
 hB : Below w.heap.size w wr
 l0 : w.heap.size + 2 ≤ gz
 l1 : gz < gr
theorem NSt.call {w wr w' : World} {gz gr : Nat} {msg rs : Array Value} (h : NSt w gz gr msg rs wr) (hC : Below wr.heap.size wr w') : NSt w gz gr msg rs w' :=
 ⟨h.bm.call hC, h.b2.call hC, h.bz.call hC, h.br.call hC, h.hB.trans (hC.mono h.hB.size), h.l0, h.l1⟩
theorem NSt.store {w wr w' : World} {gz gr : Nat} {msg rs rs' : Array Value} (h : NSt w gz gr msg rs wr) (hb : Blk w' gr 37 rs') (hf : ∀ k, k ≠ gr → w'.heap[k]? = wr.heap[k]?) (hl : ∀ B, B ≤ gr → Below B wr w') : NSt w gz gr msg rs' w' := by
 have h0 := h.l0
 have h1 := h.l1
 exact ⟨(hf _ (by omega)).trans h.bm, (hf _ (by omega)).trans h.b2, (hf _ (by omega)).trans h.bz, hb, h.hB.trans (hl _ (by omega)), h0, h1⟩
theorem err5_fer {m : Mg} {r : Rqt} (h : err0 m r = 0) : err5 m r = fer m.hdrs 5 := by
 unfold err5 err4 err3 err2 err1
 rw [h]; rfl
theorem err5_e0 {m : Mg} {r : Rqt} {c : Int} (h : err0 m r = c) (hc : c ≠ 0) : err5 m r = c := by
 unfold err5 err4 err3 err2 err1 one1
 rw [h, if_pos hc, if_pos hc, if_pos hc, if_pos hc, if_pos hc]
theorem fld5 (H : List Hdr) (r : Rqt) : fld H r 5 = setF H (setF H (setF H (setF H (setF H r 0) 1) 2) 3) 4 := by
 simp only [fld]
theorem full_fld {m : Mg} {r : Rqt} : fullS m r = { fld m.hdrs r 5 with tgt := (parseU m.target).1, routes := piecesS m.hdrs nRecR, accept := piecesS m.hdrs nAccept } := by
 rw [fld5]; simp only [setF, fullS]
theorem fld_rest (H : List Hdr) (r : Rqt) : (fld H r 5).routes = r.routes ∧ (fld H r 5).accept = r.accept ∧ (fld H r 5).fromT = r.fromT := by
 rw [fld5]; simp only [setF, and_self]
set_option maxRecDepth 100000 in
set_option maxHeartbeats 12800000 in
theorem readR10_c (M TG RS B : ByteArray) (X : Int) (u : Value) (H : List Hdr) (w : World) (hu : RHdrs w u H) (hb : ∀ h ∈ H, h.name.length ≤ 1048576 ∧ h.value.length ≤ 1048576) (hH : H.length ≤ 1048576) (hT : TG.size ≤ 4294967280) :
  Calls Tryz.prog 10 #[.agg #[.string M, .string TG, .int .i64 X, .string RS, u, .string B]] w (RPost (readS ⟨us M, us TG, X, us RS, H, us B⟩) w) := by
 obtain ⟨mo, mc, rfl, _, _⟩ := hu.form
 have HMU := κ (fun (wx : World) (h : Below w.heap.size w wx) => baseR_c M TG RS B X _ H wx (hu.below h (ρ _)) hb hH)
 unfold RPost at HMU
 obtain ⟨mg, hmg⟩ : ∃ x : Mg, x = ⟨us M, us TG, X, us RS, H, us B⟩ := ⟨_, rfl⟩
 rw [← hmg] at HMU ⊢
 have HFL := κ (must_flds mg)
 obtain ⟨⟨r, c⟩, hr0⟩ : ∃ x, x = mustS mg := ⟨_, rfl⟩
 rw [← hr0] at HMU HFL
 dsimp only at HMU HFL
 have HR := κ hr0.symm
 have HMH : Hid (mg.hdrs = H) := κ (by rw [hmg])
 have HMT : Hid (mg.target = us TG) := κ (by rw [hmg])
 have HPU := κ (fun (wx : World) => parseUR_c TG hT wx)
 unfold UriPost sv at HPU
 have HPA := κ (fun (s : List UInt8) (hs : s.length ≤ 1048576) (wx : World) => parseAR_c (bs s) (by rw [size_bs]; omega) wx)
 have HPB := κ (fun n => pieces_bd 1048576 H n (fun x hx => (hb x hx).2))
 have HFD := κ (fun (wx : World) (h : Below w.heap.size w wx) rs r' hr hd hd2 => fieldsR10_c M TG RS B X _ H rs r' wx (hu.below h (ρ _)) hb hH hr hd hd2)
 unfold FPost at HFD
 have HPC := κ (fun (nm : ByteArray) hn (wx : World) (h : Below w.heap.size w wx) => piecesR_c M TG RS B X _ H nm hn wx (hu.below h (ρ _)) hb hH)
 clear hu hb hr0 hmg
 go_enter Tryz.func10, Tryz.ntmps10
 go_upto_region 1 with fail
 refine any_world (R := Code.wp _ _ _ _) (fun x => Blk x w.heap.size 24 #[.string M, .string TG, .int .i64 X, .string RS, .slice mo H.length mc, .string B] ∧ Blk x (w.heap.size + 1) 37 zrow ∧ Below w.heap.size w x ∧ w.heap.size + 2 ≤ x.heap.size) ?_ ?_
 ·refine ⟨(Blk.new w _ _).alloc _, ?_, ((Below.refl _ _).alloc (ρ _) _).alloc (by rw [World.size_alloc]; omega) _, by simp only [World.size_alloc]; omega⟩
  have := Blk.new (w.alloc (.cells #[.string M, .string TG, .int .i64 X, .string RS, .slice mo H.length mc, .string B] 24)) 37 zrow
  rwa [World.size_alloc] at this
 rintro wr ⟨bm, b2, hB, hz⟩
 go_upto_region 2 with ((with_reducible refine holdStore 37 rfl ?_); unfold Hold; refine wpList_storeNew (vs := zrow) rfl rfl rfl rfl (by kernel_rfl) (by kernel_rfl) (by kernel_rfl) ?_; refine wpList_to (fun x => Blk x w.heap.size 24 #[.string M, .string TG, .int .i64 X, .string RS, .slice mo H.length mc, .string B] ∧ Blk x (w.heap.size + 1) 37 zrow ∧ Blk x wr.heap.size 37 zrow ∧ Below w.heap.size w x) ⟨bm.alloc _, b2.alloc _, Blk.new _ _ _, hB.alloc hB.size _⟩ ?_; clear bm b2 hB; rintro wn ⟨bm, b2, bz, hB⟩)
 obtain ⟨gz, hgz⟩ : ∃ x, x = wr.heap.size := ⟨_, rfl⟩
 rw [← hgz] at bz hz ⊢
 clear hgz
 go_upto_region 3 with (first | ((with_reducible refine holdLoad 24 rfl ?_); unfold Hold; refine wpList_loadB rfl rfl rfl Tryz.underlying24 (by kernel_rfl) bm (whole _) ?_) | (go_at_call 13; refine (HMU.out _ hB).mono ?_; rintro e w1 ⟨xs, rfl, hrr, h38, hone, hC⟩; replace bm := bm.call hC; replace b2 := b2.call hC; replace bz := bz.call hC; replace hB := hB.trans (hC.mono hB.size); clear hC) | ((with_reducible refine holdStore 37 rfl ?_); unfold Hold; refine wpList_storeNew (vs := xs) rfl rfl rfl rfl (by rw [h38]; rfl) (by rw [h38]; rfl) hone ?_; refine wpList_to (fun x => NSt w gz w1.heap.size #[.string M, .string TG, .int .i64 X, .string RS, .slice mo H.length mc, .string B] xs x ∧ RRqt x (.agg xs) r ∧ Hid (Below w1.heap.size w1 x)) ⟨⟨bm.alloc _, b2.alloc _, bz.alloc _, Blk.new _ _ _, hB.alloc hB.size _, hz, bz.lt⟩, hrr.below ((Below.refl _ _).alloc (ρ _) _) (ρ _), κ ((Below.refl _ _).alloc (ρ _) _)⟩ ?_; clear bm b2 bz hB hrr; rintro wy ⟨hS, hrr, _⟩))
 obtain ⟨gr, hgr⟩ : ∃ x, x = w1.heap.size := ⟨_, rfl⟩
 rw [← hgr] at hS ⊢
 clear hgr
 by_cases hc : c = 0
 rotate_left
 ·have t1 : (c != 0) = true := by simpa using hc
  have HQ := κ (readS_0 HR.out hc)
  clear hc
  go_wp2_with (first | ((with_reducible refine holdLoad 37 rfl ?_); unfold Hold; refine wpList_loadB (vs := zrow) rfl rfl rfl Tryz.underlying37 (by kernel_rfl) hS.bz (whole _) ?_) | ((with_reducible refine holdStore 37 rfl ?_); unfold Hold; refine wpList_storeB (vs := zrow) rfl rfl rfl rfl (by kernel_rfl) hS.b2 (Nat.le_of_eq (by kernel_rfl)) (by kernel_rfl) (setAll_whole (by kernel_rfl)) ?_; intro w9 bz9 hfar9 hsz9 hbel9))
  refine bodyPost_ret (results_ct rfl rfl rfl Tryz.underlying37 (by kernel_rfl) bz9) rfl ?_
  exact rEnd HQ.out (hS.hB.trans (hbel9 _ (by omega)))
 subst hc
 obtain ⟨k1, k2, k3, k4, k5, k6, k7, k8, k9⟩ := HFL.out (by first | rfl | trivial)
 have HKK : Hid (RqD r) := κ ⟨k5, k6, k7, k1, k8, k9⟩
 have HK2 : Hid (r.routes = [] ∧ r.accept = []) := κ ⟨k2, k3⟩
 have HNB := κ hrr.noB
 clear k1 k2 k3 k4 k5 k6 k7 k8 k9
 obtain ⟨⟨ua, ue⟩, hua⟩ : ∃ x, x = parseU (us TG) := ⟨_, rfl⟩
 rw [← hua] at HPU
 dsimp only at HPU
 have HUA := κ hua
 clear hua
 obtain ⟨usc, uus, uho, upo, ups, uhs⟩ := ua
 dsimp only at HPU
 have p1 : wy.cell? ⟨w.heap.size, 1, none⟩ = some (.string TG) := boxedCell hS.bm 1
 go_upto_region 6 with (first | (go_at_call 34; refine (HPU.out _).mono ?_; rintro e w2 ⟨v1, v2, rfl, j1, j2, f1, f2, hC⟩; have hlt := hS.br.lt; have f1 := f1.mono (Nat.succ_le_of_lt hlt); have f2 := f2.mono (Nat.succ_le_of_lt hlt); have g1 := Off.old j1 (ρ w2.heap.size); have g2 := Off.old j2 (ρ w2.heap.size); obtain ⟨a1, b1, rfl⟩ := j1.form'; obtain ⟨a2, b2, rfl⟩ := j2.form'; replace hS := hS.call hC; replace hrr := hrr.below hC (ρ _); clear hC hlt) | ((with_reducible refine holdStore 29 rfl ?_); unfold Hold; refine wpList_storeNew (vs := #[.string (bs usc), .string (bs uus), .string (bs uho), .int .i64 upo, .slice a1 ups.length b1, .slice a2 uhs.length b2]) rfl rfl rfl rfl (by kernel_rfl) (by kernel_rfl) (by kernel_rfl) ?_; refine wpList_to (fun x => NSt w gz gr #[.string M, .string TG, .int .i64 X, .string RS, .slice mo H.length mc, .string B] xs x ∧ RRqt x (.agg xs) r ∧ RPrms x (.slice a1 ups.length b1) ups ∧ RPrms x (.slice a2 uhs.length b2) uhs ∧ Blk x w2.heap.size 29 #[.string (bs usc), .string (bs uus), .string (bs uho), .int .i64 upo, .slice a1 ups.length b1, .slice a2 uhs.length b2] ∧ gr < w2.heap.size) (have hA := (Below.refl w2.heap.size w2).alloc (ρ _) (.cells #[.string (bs usc), .string (bs uus), .string (bs uho), .int .i64 upo, .slice a1 ups.length b1, .slice a2 uhs.length b2] 29); ⟨hS.call hA, hrr.below hA (ρ _), j1.below hA (ρ _), j2.below hA (ρ _), Blk.new _ _ _, hS.br.lt⟩) ?_; clear hS hrr j1 j2; rintro w3 ⟨hS, hrr, j1, j2, bu, hgu⟩))
 clear p1
 have o1 := Off.fresh f1 (Nat.lt_succ_self gr)
 have o2 := Off.fresh f2 (Nat.lt_succ_self gr)
 clear f1 f2
 obtain ⟨gu, hgu2⟩ : ∃ x, x = w2.heap.size := ⟨_, rfl⟩
 rw [← hgu2] at bu hgu g1 g2 ⊢
 clear hgu2
 by_cases hue : ue = 0
 rotate_left
 ·have t1 : (ue != 0) = true := by simpa using hue
  have HQ : Hid (readS mg = (rq0, ue)) := κ <| (readS_at HR.out).trans <| by
   have h5 := err5_e0 (m := mg) (r := r) (show err0 mg r = ue by unfold err0; rw [HMT.out, ← HUA.out, if_pos hue]) hue
   rw [read2_1 (by rw [h5]; exact hue), h5]
  clear hue
  go_wp2_with (first | ((with_reducible refine holdLoad 37 rfl ?_); unfold Hold; refine wpList_loadB (vs := zrow) rfl rfl rfl Tryz.underlying37 (by kernel_rfl) hS.bz (whole _) ?_) | ((with_reducible refine holdStore 37 rfl ?_); unfold Hold; refine wpList_storeB (vs := zrow) rfl rfl rfl rfl (by kernel_rfl) hS.b2 (Nat.le_of_eq (by kernel_rfl)) (by kernel_rfl) (setAll_whole (by kernel_rfl)) ?_; intro w9 bz9 hfar9 hsz9 hbel9))
  refine bodyPost_ret (results_ct rfl rfl rfl Tryz.underlying37 (by kernel_rfl) bz9) rfl ?_
  exact rEnd HQ.out (hS.hB.trans (hbel9 _ (by omega)))
 subst hue
 have hf6 : xs[25]? = some (.string (bs r.fromT)) := by
  obtain ⟨_, _, _, _, _, _, _, _, _, _, _, _, e, _⟩ := hrr
  injection e with e
  rw [e]; rfl
 have z25 := (boxedCell hS.br 25).trans hf6
 clear hf6
 by_cases hft : r.fromT = []
 ·rw [hft, show (bs ([] : List UInt8)) = ByteArray.empty from rfl] at z25
  have HQ : Hid (readS mg = (rq0, 100)) := κ <| (readS_at HR.out).trans <| by
   have h5 := err5_e0 (m := mg) (r := r) (show err0 mg r = 100 by unfold err0; rw [HMT.out, ← HUA.out, if_neg (fun h => h rfl), if_pos hft]) (by decide)
   rw [read2_1 (by rw [h5]; decide), h5]
  clear hft
  go_wp2_with (first | ((with_reducible refine holdLoad 37 rfl ?_); unfold Hold; refine wpList_loadB (vs := zrow) rfl rfl rfl Tryz.underlying37 (by kernel_rfl) hS.bz (whole _) ?_) | ((with_reducible refine holdStore 37 rfl ?_); unfold Hold; refine wpList_storeB (vs := zrow) rfl rfl rfl rfl (by kernel_rfl) hS.b2 (Nat.le_of_eq (by kernel_rfl)) (by kernel_rfl) (setAll_whole (by kernel_rfl)) ?_; intro w9 bz9 hfar9 hsz9 hbel9))
  refine bodyPost_ret (results_ct rfl rfl rfl Tryz.underlying37 (by kernel_rfl) bz9) rfl ?_
  exact rEnd HQ.out (hS.hB.trans (hbel9 _ (by omega)))
 have pz : (bs r.fromT).size ≠ 0 := by rw [size_bs]; exact fun h => hft (List.length_eq_zero_iff.1 h)
 have pI : r.fromT.isEmpty = false := by cases hh : r.fromT with | nil => exact absurd hh hft | cons => rfl
 have HE0 : Hid (err0 mg r = 0) := κ (by unfold err0; rw [HMT.out, ← HUA.out, if_neg (fun h => h rfl), if_neg hft])
 clear hft
 go_upto_region 10 with fail
 clear z25 pz pI
 have HE5 : Hid (err5 mg r = fer H 5) := κ (by rw [err5_fer HE0.out, HMH.out])
 obtain ⟨E5, hE5⟩ : ∃ x, x = fer H 5 := ⟨_, rfl⟩
 rw [← hE5] at HFD HE5
 clear hE5
 go_upto_region 11 with (first | ((with_reducible refine holdLoad 24 rfl ?_); unfold Hold; refine wpList_loadB rfl rfl rfl Tryz.underlying24 (by kernel_rfl) hS.bm (whole _) ?_) | ((with_reducible refine holdLoad 37 rfl ?_); unfold Hold; refine wpList_loadB (vs := xs) rfl rfl rfl Tryz.underlying37 (by rw [h38]; rfl) hS.br (whole _) ?_) | (go_at_call 35; refine (HFD.out _ hS.hB xs r hrr HKK.out HK2.out).mono ?_; rintro e w4 ⟨ys, rfl, y38, yone, hC, hfd⟩; have hlt := bu.lt; replace bu := bu.call hC; replace j1 := j1.below hC (ρ _); replace j2 := j2.below hC (ρ _); replace hS := hS.call hC; clear hC hrr) | ((with_reducible refine holdStore 37 rfl ?_); unfold Hold; have hbo := hS.br; have hwo := hS; refine wpList_storeB (vs := ys) (cs' := ys) rfl rfl rfl rfl (by rw [y38]; rfl) hS.br (by rw [h38, y38]; exact Nat.le_of_ble_eq_true (by kernel_rfl)) yone (setAll_whole (by rw [h38, y38])) ?_; intro w8 b8 hf8 hs8 hl8; replace hS := hS.store b8 hf8 hl8))
 by_cases h5 : E5 = 0
 rotate_left
 ·have t1 : (E5 != 0) = true := by simpa using h5
  have HQ : Hid (readS mg = (rq0, E5)) := κ <| (readS_at HR.out).trans (by rw [read2_1 (by rw [HE5.out]; exact h5), HE5.out])
  clear h5
  go_wp2_with (first | ((with_reducible refine holdLoad 37 rfl ?_); unfold Hold; refine wpList_loadB (vs := zrow) rfl rfl rfl Tryz.underlying37 (by kernel_rfl) hS.bz (whole _) ?_) | ((with_reducible refine holdStore 37 rfl ?_); unfold Hold; refine wpList_storeB (vs := zrow) rfl rfl rfl rfl (by kernel_rfl) hS.b2 (Nat.le_of_eq (by kernel_rfl)) (by kernel_rfl) (setAll_whole (by kernel_rfl)) ?_; intro w9 bz9 hfar9 hsz9 hbel9))
  refine bodyPost_ret (results_ct rfl rfl rfl Tryz.underlying37 (by kernel_rfl) bz9) rfl ?_
  exact rEnd HQ.out (hS.hB.trans (hbel9 _ (by omega)))
 subst h5
 obtain ⟨hq0, vc, hvc, hcf⟩ := hfd rfl
 have hq : RQF gr gu w8 (.agg ys) (fld H r 5) := (RQF.make hq0 hvc (RAdrsF.lower hcf hlt) ((fld_rest H r).1.trans HK2.out.1) ((fld_rest H r).2.1.trans HK2.out.2) hbo HNB.out bu (by kernel_rfl)).kp hgu (KeptB.store1 hf8 hs8)
 replace j1 := j1.kp o1 o1 (KeptB.store1 hf8 hs8)
 replace j2 := j2.kp o2 o2 (KeptB.store1 hf8 hs8)
 replace bu : Blk w8 gu 29 #[.string (bs usc), .string (bs uus), .string (bs uho), .int .i64 upo, .slice a1 ups.length b1, .slice a2 uhs.length b2] := (hf8 gu (by omega)).trans bu
 have hg8 := bu.lt
 clear hq0 hvc hcf hbo hwo b8 hf8 hs8 hl8 hfd hlt
 go_upto_region 14 with (first | ((with_reducible refine holdLoad 29 rfl ?_); unfold Hold; refine wpList_loadB rfl rfl rfl Tryz.underlying29 (by kernel_rfl) bu (whole _) ?_) | ((with_reducible refine holdStore 29 rfl ?_); unfold Hold; refine wpList_storeB (off := 1) (vs := #[.string (bs usc), .string (bs uus), .string (bs uho), .int .i64 upo, .slice a1 ups.length b1, .slice a2 uhs.length b2]) rfl rfl rfl rfl (by kernel_rfl) hS.br (by rw [y38]; exact Nat.le_of_ble_eq_true (by kernel_rfl)) (by kernel_rfl) rfl ?_; intro w7 b8 hf8 hs8 hl8; replace hq := (hq.tgt_ (a := ⟨usc, uus, uho, upo, ups, uhs⟩) ⟨j1, o1, g1⟩ ⟨j2, o2, g2⟩).kp hgu (KeptB.store1 hf8 hs8); replace hS := hS.store b8 hf8 hl8; have hg7 : gu < w7.heap.size := (by omega); clear b8 hf8 hs8 hl8 hg8 j1 j2 bu))
 unfold sv at hq
 dsimp only at hq
 rw [show (⟨usc, uus, uho, upo, ups, uhs⟩ : Uri) = (parseU (us TG)).1 by rw [← HUA.out]] at hq
 dsimp only at hS
 generalize hys : setAll ys 1 [.string (bs usc), .string (bs uus), .string (bs uho), .int .i64 upo, .slice a1 ups.length b1, .slice a2 uhs.length b2] = y1 at hS hq
 clear hys y38 yone
 have hy1 := hq.size
 go_upto_region 15 with (first | ((with_reducible refine holdLoad 24 rfl ?_); unfold Hold; refine wpList_loadB rfl rfl rfl Tryz.underlying24 (by kernel_rfl) hS.bm (whole _) ?_) | (go_at_call 36; refine (HPC.out ⟨#[82, 101, 99, 111, 114, 100, 45, 82, 111, 117, 116, 101]⟩ (by decide) _ hS.hB).mono ?_; rintro e w3 ⟨v3, rfl, hv3, hC⟩; rw [show us ⟨#[82, 101, 99, 111, 114, 100, 45, 82, 111, 117, 116, 101]⟩ = nRecR from rfl] at hv3; have hv3' := RS2.new hv3 hgu hg7; obtain ⟨aoR, acR, rfl⟩ := row_formM hv3; replace hq := (hq.kp hgu (KeptB.of_below hC)).rts_ hv3'; have hg6 := Nat.lt_of_lt_of_le hg7 hC.size; replace hS := hS.call hC; clear hv3 hv3' hC hg7) | ((with_reducible refine holdStore 35 rfl ?_); unfold Hold; refine wpList_storeC (off := 33) (v := .slice aoR (piecesS H nRecR).length acR) rfl rfl rfl rfl (by kernel_rfl) hS.br (by rw [hy1]; decide) (by kernel_rfl) (by kernel_rfl) rfl ?_; intro w6 b8 hf8 hs8 hl8; replace hS := hS.store b8 hf8 hl8; replace hq := hq.kp hgu (KeptB.store1 hf8 hs8); have hg5 : gu < w6.heap.size := (by omega); clear b8 hf8 hs8 hl8 hg6))
 have HQ5 : Hid (err5 mg r = 0) := HE5
 obtain ⟨vR, eR, hvR⟩ := hq.routes_
 have hy2 := hq.size
 generalize hys : y1.setIfInBounds 33 (.slice aoR (piecesS H nRecR).length acR) = y2 at hS hq eR hy2
 clear hys hy1
 dsimp only at hvR
 have HPB2 := κ (HPB.out nRecR)
 obtain ⟨LR, hLR⟩ : ∃ x, x = piecesS H nRecR := ⟨_, rfl⟩
 rw [← hLR] at hvR HPB2 hq
 have HLR : Hid (piecesS mg.hdrs nRecR = LR) := κ (by rw [HMH.out, hLR])
 clear hLR
 obtain ⟨oR, cR, rfl, hRm, cR1⟩ := hvR.1.form
 have HCR := κ cR1
 clear cR1 hvR
 unfold maxLen at hRm
 have z33 := (boxedCell hS.br 33).trans eR
 go_wp2
 clear z33
 go_loopw [8] (fun i wr => ∃ k : Nat, k ≤ LR.length ∧ i = .int .i64 k ∧ Hid (Below w6.heap.size w6 wr) ∧ Hid (firstE LR = firstE (LR.drop k))) (fun i _ => LR.length - (intOf i).toNat)
 case atStart => exact ⟨0, Nat.zero_le _, rfl, κ (Below.refl _ _), κ rfl⟩
 case round =>
  obtain ⟨k, hk, rfl, HB, HP⟩ := hrel
  have hS2 := hS.call HB.out
  have z33 := (boxedCell hS2.br 33).trans eR
  by_cases hlt : k < LR.length
  ·obtain ⟨b, off, e9, hb1, hc1⟩ := HCR.out (by omega)
   subst e9
   have x0 : wr.cell? ⟨b, off + k, none⟩ = some (.string (bs LR[k])) := (HB.out.cell (p := ⟨b, off + k, none⟩) hb1).trans (hc1 k hlt)
   have HP1 := κ (HPA.out LR[k] (HPB2.out LR[k] (List.getElem_mem hlt)))
   rw [us_bs] at HP1
   unfold AdrPost at HP1
   have hst : firstE LR = if (parseA LR[k]).2 ≠ 0 then (parseA LR[k]).2 else firstE (LR.drop (k + 1)) := by rw [HP.out, List.drop_eq_getElem_cons hlt, firstE_cons]
   obtain ⟨y, hy⟩ : ∃ y, y = parseA LR[k] := ⟨_, rfl⟩
   rw [← hy] at HP1 hst
   obtain ⟨S2, hS9⟩ : ∃ S2, S2 = bs LR[k] := ⟨_, rfl⟩
   rw [← hS9] at x0 HP1
   clear hy hS9 HP hc1
   obtain ⟨⟨d, ⟨sc, ur, ho, n, F, G⟩, L⟩, c⟩ := y
   dsimp only at HP1 hst
   unfold sv at HP1
   have k0 : (0 : Int) ≤ (k : Int) := by omega
   have k1 : (k : Int) < (LR.length : Int) := by omega
   by_cases hc : c = 0
   ·subst hc
    rw [if_neg (fun h => h rfl)] at hst
    have HST := κ hst
    clear hst
    go_wp2_with (first | (go_at_call 37; refine (HP1.out _).mono ?_; rintro e w3 ⟨u1, u2, u3, rfl, g1, g2, g3, _, _, _, hC⟩; obtain ⟨o1, q1, rfl⟩ := g1.form'; obtain ⟨o2, q2, rfl⟩ := g2.form'; obtain ⟨o3, q3, rfl⟩ := g3.form'; replace hS2 := hS2.call hC; have hBC := HB.out.trans (hC.mono HB.out.size); clear g1 g2 g3 x0 z33) | ((with_reducible refine holdStore 31 rfl ?_); unfold Hold; refine wpList_storeNew (vs := #[.string (bs d), .string (bs sc), .string (bs ur), .string (bs ho), .int .i64 n, .slice o1 F.length q1, .slice o2 G.length q2, .slice o3 L.length q3]) rfl rfl rfl rfl (by kernel_rfl) (by kernel_rfl) (by kernel_rfl) ?_; refine wpList_to (fun x => NSt w gz gr #[.string M, .string TG, .int .i64 X, .string RS, .slice mo H.length mc, .string B] y2 x ∧ Below w6.heap.size w6 x) ⟨hS2.call ((Below.refl _ _).alloc (ρ _) _), hBC.alloc hBC.size _⟩ ?_; clear hS2 hBC hC; rintro w4 ⟨hS2, hBC⟩))
    go_roundw
    case rel => exact ⟨k + 1, by omega, by go_num, κ hBC, HST⟩
    case measure => simp [intOf]; omega
   ·rw [if_pos hc] at hst
    have t0 : (c != 0) = true := by simpa using hc
    have HQ : Hid (readS mg = (rq0, c)) := κ <| (readS_at HR.out).trans (read2_2 HQ5.out (by rw [HLR.out]; exact hst) hc)
    clear hst hc
    go_upto_region 19 with (first | (go_at_call 37; refine (HP1.out _).mono ?_; rintro e w3 ⟨u1, u2, u3, rfl, g1, g2, g3, _, _, _, hC⟩; obtain ⟨o1, q1, rfl⟩ := g1.form'; obtain ⟨o2, q2, rfl⟩ := g2.form'; obtain ⟨o3, q3, rfl⟩ := g3.form'; replace hS2 := hS2.call hC; have hBC := HB.out.trans (hC.mono HB.out.size); clear g1 g2 g3 x0 z33) | ((with_reducible refine holdStore 31 rfl ?_); unfold Hold; refine wpList_storeNew (vs := #[.string (bs d), .string (bs sc), .string (bs ur), .string (bs ho), .int .i64 n, .slice o1 F.length q1, .slice o2 G.length q2, .slice o3 L.length q3]) rfl rfl rfl rfl (by kernel_rfl) (by kernel_rfl) (by kernel_rfl) ?_; refine wpList_to (fun x => NSt w gz gr #[.string M, .string TG, .int .i64 X, .string RS, .slice mo H.length mc, .string B] y2 x ∧ Below w6.heap.size w6 x) ⟨hS2.call ((Below.refl _ _).alloc (ρ _) _), hBC.alloc hBC.size _⟩ ?_; clear hS2 hBC hC; rintro w4 ⟨hS2, hBC⟩))
    go_wp2_with (first | ((with_reducible refine holdLoad 37 rfl ?_); unfold Hold; refine wpList_loadB (vs := zrow) rfl rfl rfl Tryz.underlying37 (by kernel_rfl) hS2.bz (whole _) ?_) | ((with_reducible refine holdStore 37 rfl ?_); unfold Hold; refine wpList_storeB (vs := zrow) rfl rfl rfl rfl (by kernel_rfl) hS2.b2 (Nat.le_of_eq (by kernel_rfl)) (by kernel_rfl) (setAll_whole (by kernel_rfl)) ?_; intro w9 bz9 hfar9 hsz9 hbel9))
    refine bodyPost_ret (results_ct rfl rfl rfl Tryz.underlying37 (by kernel_rfl) bz9) rfl ?_
    exact rEnd HQ.out (hS2.hB.trans (hbel9 _ (by omega)))
  ·have HF0 : Hid (firstE (piecesS mg.hdrs nRecR) = 0) := κ (by rw [HLR.out, HP.out, List.drop_eq_nil_iff.2 (by omega)]; rfl)
   clear HP
   have hg4 : gu < wr.heap.size := Nat.lt_of_lt_of_le hg5 HB.out.size
   replace hq := hq.kp hgu (KeptB.of_below HB.out)
   go_upto_region 21 with fail
   clear z33
   go_upto_region 22 with (first | ((with_reducible refine holdLoad 24 rfl ?_); unfold Hold; refine wpList_loadB rfl rfl rfl Tryz.underlying24 (by kernel_rfl) hS2.bm (whole _) ?_) | (go_at_call 36; refine (HPC.out ⟨#[65, 99, 99, 101, 112, 116]⟩ (by decide) _ hS2.hB).mono ?_; rintro e w3 ⟨v3, rfl, hv3, hC⟩; rw [show us ⟨#[65, 99, 99, 101, 112, 116]⟩ = nAccept from rfl] at hv3; have hv3' := RS2.new hv3 hgu hg4; obtain ⟨aoA, acA, rfl⟩ := row_formM hv3; replace hq := (hq.kp hgu (KeptB.of_below hC)).acc_ hv3'; replace hS2 := hS2.call hC; clear hv3 hv3' hC hg4) | ((with_reducible refine holdStore 35 rfl ?_); unfold Hold; refine wpList_storeC (off := 34) (v := .slice aoA (piecesS H nAccept).length acA) rfl rfl rfl rfl (by kernel_rfl) hS2.br (by rw [hy2]; decide) (by kernel_rfl) (by kernel_rfl) rfl ?_; intro w5 b8 hf8 hs8 hl8; replace hS2 := hS2.store b8 hf8 hl8; replace hq := hq.kp hgu (KeptB.store1 hf8 hs8); clear b8 hf8 hs8 hl8))
   have hR38 := hq.size
   have hR1 := hq.one
   obtain ⟨vA, eA, hvA⟩ := hq.accept_
   obtain ⟨vR2, eR2, hvR2⟩ := hq.routes_
   have eR3 : (y2.setIfInBounds 34 (.slice aoA (piecesS H nAccept).length acA))[33]? = some (.slice oR LR.length cR) := by rw [Array.getElem?_setIfInBounds_ne (by decide)]; exact eR
   dsimp only at hvA
   have HFU : Hid (fullS mg r = { fld H r 5 with tgt := (parseU (us TG)).1, routes := LR, accept := piecesS H nAccept }) := κ (by rw [full_fld, HMH.out, HMT.out, ← HLR.out, HMH.out])
   replace hq : RQF gr gu w5 (.agg (y2.setIfInBounds 34 (.slice aoA (piecesS H nAccept).length acA))) (fullS mg r) := by rw [HFU.out]; exact hq
   generalize hys : y2.setIfInBounds 34 (.slice aoA (piecesS H nAccept).length acA) = rsF at hS2 hq eA eR3 hR38 hR1
   clear hys hy2 hvR2 eR2
   obtain ⟨LA, hLA⟩ : ∃ x, x = piecesS H nAccept := ⟨_, rfl⟩
   rw [← hLA] at hvA
   have HLA : Hid (piecesS mg.hdrs nAccept = LA) := κ (by rw [HMH.out, hLA])
   clear hLA HFU
   obtain ⟨oA, cA, rfl, hAm, _⟩ := hvA.1.form
   clear hvA
   unfold maxLen at hAm
   have z33 := (boxedCell hS2.br 33).trans eR3
   have z34 := (boxedCell hS2.br 34).trans eA
   by_cases hlR : 16 < LR.length
   ·have HQ : Hid (readS mg = (rq0, 4)) := κ <| (readS_at HR.out).trans (read2_3 HQ5.out HF0.out (.inl (by rw [HLR.out]; exact hlR)))
    have tR : decide ((16 : Int) < (LR.length : Int)) = true := by simp; omega
    clear hlR
    go_wp2_with (first | ((with_reducible refine holdLoad 37 rfl ?_); unfold Hold; refine wpList_loadB (vs := zrow) rfl rfl rfl Tryz.underlying37 (by kernel_rfl) hS2.bz (whole _) ?_) | ((with_reducible refine holdStore 37 rfl ?_); unfold Hold; refine wpList_storeB (vs := zrow) rfl rfl rfl rfl (by kernel_rfl) hS2.b2 (Nat.le_of_eq (by kernel_rfl)) (by kernel_rfl) (setAll_whole (by kernel_rfl)) ?_; intro w9 bz9 hfar9 hsz9 hbel9))
    refine bodyPost_ret (results_ct rfl rfl rfl Tryz.underlying37 (by kernel_rfl) bz9) rfl ?_
    exact rEnd HQ.out (hS2.hB.trans (hbel9 _ (by omega)))
   have tR : decide ((16 : Int) < (LR.length : Int)) = false := by simp; omega
   have HLR0 := κ hlR
   clear hlR
   by_cases hlA : 16 < LA.length
   ·have HQ : Hid (readS mg = (rq0, 4)) := κ <| (readS_at HR.out).trans (read2_3 HQ5.out HF0.out (.inr (by rw [HLA.out]; exact hlA)))
    have tA : decide ((16 : Int) < (LA.length : Int)) = true := by simp; omega
    clear hlA
    go_wp2_with (first | ((with_reducible refine holdLoad 37 rfl ?_); unfold Hold; refine wpList_loadB (vs := zrow) rfl rfl rfl Tryz.underlying37 (by kernel_rfl) hS2.bz (whole _) ?_) | ((with_reducible refine holdStore 37 rfl ?_); unfold Hold; refine wpList_storeB (vs := zrow) rfl rfl rfl rfl (by kernel_rfl) hS2.b2 (Nat.le_of_eq (by kernel_rfl)) (by kernel_rfl) (setAll_whole (by kernel_rfl)) ?_; intro w9 bz9 hfar9 hsz9 hbel9))
    refine bodyPost_ret (results_ct rfl rfl rfl Tryz.underlying37 (by kernel_rfl) bz9) rfl ?_
    exact rEnd HQ.out (hS2.hB.trans (hbel9 _ (by omega)))
   have HQ : Hid (readS mg = (fullS mg r, 0)) := κ <| (readS_at HR.out).trans (read2_4 HQ5.out HF0.out (by rw [HLR.out]; exact HLR0.out) (by rw [HLA.out]; exact hlA))
   have tA : decide ((16 : Int) < (LA.length : Int)) = false := by simp; omega
   clear hlA
   go_wp2_with (first | ((with_reducible refine holdLoad 37 rfl ?_); unfold Hold; refine wpList_loadB (vs := rsF) rfl rfl rfl Tryz.underlying37 (by rw [hR38]; rfl) hS2.br (whole _) ?_) | ((with_reducible refine holdStore 37 rfl ?_); unfold Hold; refine wpList_storeB (vs := rsF) (cs' := rsF) rfl rfl rfl rfl (by rw [hR38]; rfl) hS2.b2 (by rw [hR38]; exact Nat.le_of_eq (by kernel_rfl)) hR1 (setAll_whole (by rw [hR38]; kernel_rfl)) ?_; intro w9 bz9 hfar9 hsz9 hbel9))
   refine bodyPost_ret (results_ct rfl rfl rfl Tryz.underlying37 (by rw [hR38]; rfl) bz9) rfl ?_
   refine ⟨rsF, congrArg (fun x : Rqt × Int => Ending.returned (.tuple #[.agg rsF, .int .i64 x.2])) HQ.out.symm, ?_, hR38, hR1, hS2.hB.trans (hbel9 _ (by omega))⟩
   rw [HQ.out]
   exact hq.out hgu (by have h1 := hS2.l0; have h2 := hS2.l1; omega) hS2.b2 (by kernel_rfl) hfar9 hsz9
end Go.Proofs.YtgkilllbkljibaaGreatDoor
