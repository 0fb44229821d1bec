/- Contracts of Go functions, and plain laws. No condition but those told. -/
import Derived.Test.YtgkilllbkljibaaGreatDoorRpn
import Derived.Test.YtgkilllbkljibaaGreatDoorRmu
import Derived.Test.YtgkilllbkljibaaGreatDoorR15
set_option linter.unusedSimpArgs false
set_option linter.unusedVariables false
set_option maxRecDepth 100000
namespace Go.Proofs.YtgkilllbkljibaaGreatDoor
open Go.RowKit Go.Sort
structure ASt (w : World) (msg : Array Value) (gr go : Nat) (rs os : Array Value) (wr : World) : Prop where
 bm : Blk wr w.heap.size 24 msg
 br : Blk wr gr 37 rs
 bo : Blk wr go 24 os
 hB : Below w.heap.size w wr
 l1 : w.heap.size < gr
 l2 : gr < go
theorem ASt.call {w wr w' : World} {msg rs os : Array Value} {gr go : Nat} (h : ASt w msg gr go rs os wr) (hC : Below wr.heap.size wr w') : ASt w msg gr go rs os w' :=
 ⟨h.bm.call hC, h.br.call hC, h.bo.call hC, h.hB.trans (hC.mono h.hB.size), h.l1, h.l2⟩
theorem ASt.low {w wr w' : World} {msg rs os : Array Value} {gr go : Nat} (h : ASt w msg gr go rs os wr) (hC : Below (go + 1) wr w') : ASt w msg gr go rs os w' :=
 ⟨(hC.block _ (by have := h.l1; have := h.l2; omega)).trans h.bm, (hC.block _ (by have := h.l2; omega)).trans h.br, (hC.block _ (by omega)).trans h.bo, h.hB.trans (hC.mono (by have := h.l1; have := h.l2; omega)), h.l1, h.l2⟩
theorem ASt.store {w wr w' : World} {msg rs os os' : Array Value} {gr go : Nat} (h : ASt w msg gr go rs os wr) (hb : Blk w' go 24 os') (hf : ∀ k, k ≠ go → w'.heap[k]? = wr.heap[k]?) (hl : ∀ B, B ≤ go → Below B wr w') : ASt w msg gr go rs os' w' :=
 ⟨(hf _ (by have := h.l1; have := h.l2; omega)).trans h.bm, (hf _ (by have := h.l2; omega)).trans h.br, hb, h.hB.trans (hl _ (by have := h.l1; have := h.l2; omega)), h.l1, h.l2⟩
theorem Hdrs.far {w w' : World} {base g : Nat} {v : Value} {L : List Hdr} (h : Hdrs w base v L) (hg : g < base) (hf : ∀ k, k ≠ g → w'.heap[k]? = w.heap[k]?) (_ : w'.heap.size = w.heap.size) : Hdrs w' base v L := by
 refine ⟨h.1, ?_⟩
 rcases h.2 with hn | ⟨g', cap, cur, rfl, hb, hgg, rest⟩
 ·exact .inl hn
 ·exact .inr ⟨g', cap, cur, rfl, hb, (hf g' (by omega)).trans hgg, rest⟩
theorem RRqt.cells {w : World} {rs : Array Value} {r : Rqt} (h : RRqt w (.agg rs) r) : rs[2]? = some (.string (bs r.tgt.user)) ∧ rs[7]? = some (.string (bs r.branch)) ∧ rs[25]? = some (.string (bs r.fromT)) ∧ rs[26]? = some (.string (bs r.toT)) ∧ rs[27]? = some (.string (bs r.call)) := by
 obtain ⟨_, _, _, _, _, _, _, _, _, _, _, _, e, _⟩ := h
 injection e with e
 rw [e]
 exact ⟨rfl, rfl, rfl, rfl, rfl⟩
theorem ans_must : mustS plainM10 = (⟨[80, 85, 66, 76, 73, 83, 72], uri0, [122, 57, 104, 71, 52, 98, 75, 49], (mustS plainM10).1.by_, (mustS plainM10).1.fr, (mustS plainM10).1.dst, [49], [], [57], 1, -1, [], [], [], [], [], [], [], []⟩, 0) := by decide +kernel
theorem ans_via : allS plainH10 nVia = [[83, 73, 80, 47, 50, 46, 48, 47, 85, 68, 80, 32, 99, 59, 98, 114, 97, 110, 99, 104, 61, 122, 57, 104, 71, 52, 98, 75, 49]] := by decide +kernel
theorem ans_from : oneS plainH10 nFrom = ([60, 115, 105, 112, 58, 97, 64, 98, 62, 59, 116, 97, 103, 61, 49], true) := by decide +kernel
theorem ans_to : oneS plainH10 nTo = ([60, 115, 105, 112, 58, 97, 64, 98, 62], true) := by decide +kernel
theorem ans_seq : oneS plainH10 nCseq = ([49, 32, 80, 85, 66, 76, 73, 83, 72], true) := by decide +kernel
set_option maxRecDepth 100000 in
set_option maxHeartbeats 12800000 in
theorem answer10_c (u : Value) (w : World) (hm : Ml w) (hu : RHdrs w u plainH10) :
  Calls Tryz.prog 14 #[.agg #[.string ⟨#[80, 85, 66, 76, 73, 83, 72]⟩, .string ⟨#[115, 105, 112, 58, 97, 64, 98]⟩, .int .i64 0, .string ⟨#[]⟩, u, .string ⟨#[]⟩], .int .i64 200, .string ⟨#[120]⟩, .slice none 0 0] w fun e w' => e = .returned (.tuple #[.string (bs (printM ansM10).1), .int .i64 (printM ansM10).2]) ∧ Below w.heap.size w w' := by
 have HM := κ hm
 have HU := κ (fun (wx : World) (h : Below w.heap.size w wx) => hu.below h (ρ _))
 obtain ⟨mo, mc, rfl, _, _⟩ := hu.form
 have hbd : ∀ h ∈ plainH10, h.name.length ≤ 1048576 ∧ h.value.length ≤ 1048576 := by decide
 have HMU := κ (fun (wx : World) (h : Below w.heap.size w wx) => must_c ⟨#[80, 85, 66, 76, 73, 83, 72]⟩ ⟨#[115, 105, 112, 58, 97, 64, 98]⟩ ⟨#[]⟩ ⟨#[]⟩ 0 _ plainH10 wx (hm.below h) (hu.below h (ρ _)) hbd (by decide))
 unfold MPost at HMU
 rw [show (⟨us ⟨#[80, 85, 66, 76, 73, 83, 72]⟩, us ⟨#[115, 105, 112, 58, 97, 64, 98]⟩, 0, us ⟨#[]⟩, plainH10, us ⟨#[]⟩⟩ : Mg) = plainM10 from rfl, ans_must] at HMU
 dsimp only at HMU
 have HAL := κ (fun (wx : World) (h : Below w.heap.size w wx) => all_c' ⟨#[80, 85, 66, 76, 73, 83, 72]⟩ ⟨#[115, 105, 112, 58, 97, 64, 98]⟩ ⟨#[]⟩ ⟨#[]⟩ 0 _ plainH10 ⟨#[86, 105, 97]⟩ (by decide) wx (hu.below h (ρ _)) (by decide) (by decide))
 rw [show us ⟨#[86, 105, 97]⟩ = nVia from rfl, ans_via] at HAL
 have HOF := κ (fun (wx : World) (h : Below w.heap.size w wx) => one_c' ⟨#[80, 85, 66, 76, 73, 83, 72]⟩ ⟨#[115, 105, 112, 58, 97, 64, 98]⟩ ⟨#[]⟩ ⟨#[]⟩ 0 _ plainH10 ⟨#[70, 114, 111, 109]⟩ (by decide) wx (hu.below h (ρ _)) (by decide) (by decide))
 rw [show us ⟨#[70, 114, 111, 109]⟩ = nFrom from rfl, ans_from] at HOF
 dsimp only at HOF
 have HOT := κ (fun (wx : World) (h : Below w.heap.size w wx) => one_c' ⟨#[80, 85, 66, 76, 73, 83, 72]⟩ ⟨#[115, 105, 112, 58, 97, 64, 98]⟩ ⟨#[]⟩ ⟨#[]⟩ 0 _ plainH10 ⟨#[84, 111]⟩ (by decide) wx (hu.below h (ρ _)) (by decide) (by decide))
 rw [show us ⟨#[84, 111]⟩ = nTo from rfl, ans_to] at HOT
 dsimp only at HOT
 have HOQ := κ (fun (wx : World) (h : Below w.heap.size w wx) => one_c' ⟨#[80, 85, 66, 76, 73, 83, 72]⟩ ⟨#[115, 105, 112, 58, 97, 64, 98]⟩ ⟨#[]⟩ ⟨#[]⟩ 0 _ plainH10 ⟨#[67, 83, 101, 113]⟩ (by decide) wx (hu.below h (ρ _)) (by decide) (by decide))
 rw [show us ⟨#[67, 83, 101, 113]⟩ = nCseq from rfl, ans_seq] at HOQ
 dsimp only at HOQ
 have HTK := κ (fun wx => token_c ⟨#[120]⟩ (by decide) wx)
 rw [show token (us ⟨#[120]⟩) = true by decide] at HTK
 have HPR := κ (fun wx u hu => printF_c ⟨#[]⟩ ⟨#[]⟩ ⟨#[79, 75]⟩ ⟨#[]⟩ 200 u ansH10 (by decide) (by decide) (by decide) (by decide) (by decide) (by decide) wx hu (by decide))
 rw [show (⟨us ⟨#[]⟩, us ⟨#[]⟩, 200, us ⟨#[79, 75]⟩, ansH10, us ⟨#[]⟩⟩ : Mg) = ansM10 from rfl] at HPR
 obtain ⟨PT, hPT⟩ : ∃ x, x = printM ansM10 := ⟨_, rfl⟩
 rw [← hPT] at HPR ⊢
 clear hPT hm hu
 go_enter Tryz.func14, Tryz.ntmps14
 go_upto_region 1 with fail
 refine any_world (R := Code.wp _ _ _ _) (fun x => Blk x w.heap.size 24 #[.string ⟨#[80, 85, 66, 76, 73, 83, 72]⟩, .string ⟨#[115, 105, 112, 58, 97, 64, 98]⟩, .int .i64 0, .string ⟨#[]⟩, .slice mo plainH10.length mc, .string ⟨#[]⟩] ∧ Below w.heap.size w x) (show Blk (w.alloc (.cells #[.string ⟨#[80, 85, 66, 76, 73, 83, 72]⟩, .string ⟨#[115, 105, 112, 58, 97, 64, 98]⟩, .int .i64 0, .string ⟨#[]⟩, .slice mo plainH10.length mc, .string ⟨#[]⟩] 24)) _ _ _ ∧ Below _ w (w.alloc (.cells #[.string ⟨#[80, 85, 66, 76, 73, 83, 72]⟩, .string ⟨#[115, 105, 112, 58, 97, 64, 98]⟩, .int .i64 0, .string ⟨#[]⟩, .slice mo plainH10.length mc, .string ⟨#[]⟩] 24)) from ⟨Blk.new w _ _, (Below.refl _ _).alloc (ρ _) _⟩) ?_
 rintro wr ⟨bm, hB⟩
 go_upto_region 2 with (first | ((with_reducible refine holdLoad 24 rfl ?_); unfold Hold; refine wpList_loadB rfl rfl rfl Tryz.underlying24 (by kernel_rfl) bm (whole _) ?_) | (go_at_call 19; refine (HMU.out _ hB).mono ?_; rintro e w1 ⟨xs, rfl, h38, hone, hrr, hC⟩; replace bm := bm.call hC; replace hB := hB.trans (hC.mono hB.size)) | ((with_reducible refine holdStore 37 rfl ?_); unfold Hold; refine wpList_storeNew (vs := xs) rfl rfl rfl rfl (by rw [h38]; rfl) (by rw [h38]; rfl) hone ?_; refine wpList_to (fun x => Blk x w.heap.size 24 #[.string ⟨#[80, 85, 66, 76, 73, 83, 72]⟩, .string ⟨#[115, 105, 112, 58, 97, 64, 98]⟩, .int .i64 0, .string ⟨#[]⟩, .slice mo plainH10.length mc, .string ⟨#[]⟩] ∧ Blk x w1.heap.size 37 xs ∧ Below w.heap.size w x) ⟨bm.alloc _, Blk.new _ _ _, hB.alloc hB.size _⟩ ?_; have l1 := bm.lt; clear bm hB hC; rintro wy ⟨bm, br, hB⟩))
 obtain ⟨_, _, _, r26, r27⟩ := (hrr (by first | rfl | trivial)).cells
 clear hrr
 go_upto_region 6 with (go_at_call 31; refine (HTK.out _).mono ?_; rintro e w2 ⟨rfl, rfl⟩)
 go_upto_region 7 with (first | (go_at_call 18; refine (reason200_c _).mono ?_; rintro e w2 ⟨rfl, rfl⟩) | ((with_reducible refine holdStore 24 rfl ?_); unfold Hold; refine wpList_storeNew (vs := #[.string ⟨#[]⟩, .string ⟨#[]⟩, .int .i64 200, .string ⟨#[79, 75]⟩, .slice none 0 0, .string ⟨#[]⟩]) rfl rfl rfl rfl (by kernel_rfl) (by kernel_rfl) (by kernel_rfl) ?_; refine wpList_to (ASt w #[.string ⟨#[80, 85, 66, 76, 73, 83, 72]⟩, .string ⟨#[115, 105, 112, 58, 97, 64, 98]⟩, .int .i64 0, .string ⟨#[]⟩, .slice mo plainH10.length mc, .string ⟨#[]⟩] w1.heap.size wy.heap.size xs #[.string ⟨#[]⟩, .string ⟨#[]⟩, .int .i64 200, .string ⟨#[79, 75]⟩, .slice none 0 0, .string ⟨#[]⟩]) ⟨bm.alloc _, br.alloc _, Blk.new _ _ _, hB.alloc hB.size _, l1, br.lt⟩ ?_; clear bm br hB; intro wz hS))
 obtain ⟨go, hgo⟩ : ∃ x, x = wy.heap.size := ⟨_, rfl⟩
 rw [← hgo] at hS ⊢
 clear hgo
 obtain ⟨gr, hgr⟩ : ∃ x, x = w1.heap.size := ⟨_, rfl⟩
 rw [← hgr] at hS ⊢
 clear hgr l1
 go_wp2_with (first | ((with_reducible refine holdLoad 24 rfl ?_); unfold Hold; refine wpList_loadB rfl rfl rfl Tryz.underlying24 (by kernel_rfl) hS.bm (whole _) ?_) | (go_at_call 50; refine (HAL.out _ hS.hB).mono ?_; rintro e w2 ⟨va, rfl, hva, hC⟩; replace hS := hS.call hC; obtain ⟨ao, cap, rfl, _, c1⟩ := hva.form; clear hC hva))
 obtain ⟨b, off, rfl, hb2, hc2⟩ := c1 (by decide)
 clear c1
 go_loopw [51] (fun i wr => (i = .int .i64 0 ∧ Hid (Below w2.heap.size w2 wr)) ∨ (i = .int .i64 1 ∧ ∃ v, ASt w #[.string ⟨#[80, 85, 66, 76, 73, 83, 72]⟩, .string ⟨#[115, 105, 112, 58, 97, 64, 98]⟩, .int .i64 0, .string ⟨#[]⟩, .slice mo plainH10.length mc, .string ⟨#[]⟩] gr go xs #[.string ⟨#[]⟩, .string ⟨#[]⟩, .int .i64 200, .string ⟨#[79, 75]⟩, v, .string ⟨#[]⟩] wr ∧ Hdrs wr (go + 1) v [⟨nVia, [83, 73, 80, 47, 50, 46, 48, 47, 85, 68, 80, 32, 99, 59, 98, 114, 97, 110, 99, 104, 61, 122, 57, 104, 71, 52, 98, 75, 49]⟩])) (fun i _ => 1 - (intOf i).toNat)
 case atStart => exact .inl ⟨rfl, κ (Below.refl _ _)⟩
 case round =>
  rcases hrel with ⟨rfl, HB⟩ | ⟨rfl, v, hS, hv⟩
  ·have hS := hS.call HB.out
   have x0 : wr.cell? ⟨b, off, none⟩ = some (.string ⟨#[83, 73, 80, 47, 50, 46, 48, 47, 85, 68, 80, 32, 99, 59, 98, 114, 97, 110, 99, 104, 61, 122, 57, 104, 71, 52, 98, 75, 49]⟩) := (HB.out.cell (p := ⟨b, off, none⟩) hb2).trans (hc2 0 (by decide))
   have o4 : wr.cell? ⟨go, 4, none⟩ = some (.slice none 0 0) := boxedCell hS.bo 4
   have hS := hS.call ((Below.refl _ _).alloc (ρ _) (.cells #[.string ⟨#[86, 105, 97]⟩, .string ⟨#[83, 73, 80, 47, 50, 46, 48, 47, 85, 68, 80, 32, 99, 59, 98, 114, 97, 110, 99, 104, 61, 122, 57, 104, 71, 52, 98, 75, 49]⟩] 46))
   have hv := Hdrs.nil (wr.alloc (.cells #[.string ⟨#[86, 105, 97]⟩, .string ⟨#[83, 73, 80, 47, 50, 46, 48, 47, 85, 68, 80, 32, 99, 59, 98, 114, 97, 110, 99, 104, 61, 122, 57, 104, 71, 52, 98, 75, 49]⟩] 46)) (go + 1)
   go_wp2_with (first | (at_builtin; refine wpList_appHs (base := go + 1) (L := []) (M := [⟨nVia, [83, 73, 80, 47, 50, 46, 48, 47, 85, 68, 80, 32, 99, 59, 98, 114, 97, 110, 99, 104, 61, 122, 57, 104, 71, 52, 98, 75, 49]⟩]) rfl rfl Tryz.underlying22 infoH rfl (RHdrs.blk (L := [⟨nVia, [83, 73, 80, 47, 50, 46, 48, 47, 85, 68, 80, 32, 99, 59, 98, 114, 97, 110, 99, 104, 61, 122, 57, 104, 71, 52, 98, 75, 49]⟩]) (Blk.new _ _ _) (by decide) (by decide)) rfl hv (Below.refl _ _) hS.bo.lt (by decide) ?_; intro v1 w4 hv1 hb1; replace hS := hS.low hb1; clear hb1 hv; have hv := hv1; clear hv1; obtain ⟨vo, vc, rfl⟩ := hdrs_to hv) | ((with_reducible refine holdStore 22 rfl ?_); unfold Hold; refine wpList_storeC (off := 4) (v := .slice vo 1 vc) (cs' := #[.string ⟨#[]⟩, .string ⟨#[]⟩, .int .i64 200, .string ⟨#[79, 75]⟩, .slice vo 1 vc, .string ⟨#[]⟩]) rfl rfl rfl rfl (by kernel_rfl) hS.bo (Nat.le_of_ble_eq_true (by kernel_rfl)) (by kernel_rfl) (by kernel_rfl) (by kernel_rfl) ?_; intro w8 b8 hf8 hs8 hl8; replace hv := hv.far (Nat.lt_succ_self go) hf8 hs8; replace hS := hS.store b8 hf8 hl8; clear b8 hf8 hs8 hl8))
   go_roundw
   case rel => exact .inr ⟨by first | rfl | go_num, _, hS, hv⟩
   case measure => simp [intOf]
  ·obtain ⟨vo, vc, rfl⟩ := hdrs_to hv
   go_upto_region 13 with (first | ((with_reducible refine holdLoad 24 rfl ?_); unfold Hold; refine wpList_loadB rfl rfl rfl Tryz.underlying24 (by kernel_rfl) hS.bm (whole _) ?_) | (go_at_call 51; refine (HOT.out _ hS.hB).mono ?_; rintro e w3 ⟨rfl, hC⟩; replace hv := hv.below hC (ρ _); replace hS := hS.call hC; clear hC))
   go_upto_region 14 with (first | ((with_reducible refine holdLoad 24 rfl ?_); unfold Hold; refine wpList_loadB rfl rfl rfl Tryz.underlying24 (by kernel_rfl) hS.bm (whole _) ?_) | (go_at_call 51; refine (HOF.out _ hS.hB).mono ?_; rintro e w3 ⟨rfl, hC⟩; replace hv := hv.below hC (ρ _); replace hS := hS.call hC; clear hC))
   go_upto_region 15 with (first | ((with_reducible refine holdLoad 24 rfl ?_); unfold Hold; refine wpList_loadB rfl rfl rfl Tryz.underlying24 (by kernel_rfl) hS.bm (whole _) ?_) | (go_at_call 51; refine (HOQ.out _ hS.hB).mono ?_; rintro e w3 ⟨rfl, hC⟩; replace hv := hv.below hC (ρ _); replace hS := hS.call hC; clear hC))
   have r26' := (boxedCell hS.br 26).trans r26
   have r27' := (boxedCell hS.br 27).trans r27
   go_upto_region 17 with fail
   clear r26'
   have o4 := boxedCell hS.bo 4
   simp only [List.getElem?_toArray, List.getElem?_cons_succ, List.getElem?_cons_zero] at o4
   replace hS := hS.call ((Below.refl _ _).alloc (ρ _) (.cells #[.string ⟨#[70, 114, 111, 109]⟩, .string ⟨#[60, 115, 105, 112, 58, 97, 64, 98, 62, 59, 116, 97, 103, 61, 49]⟩, .string ⟨#[84, 111]⟩, .string ⟨#[60, 115, 105, 112, 58, 97, 64, 98, 62, 59, 116, 97, 103, 61, 120]⟩, .string ⟨#[67, 97, 108, 108, 45, 73, 68]⟩, .string ⟨#[57]⟩, .string ⟨#[67, 83, 101, 113]⟩, .string ⟨#[49, 32, 80, 85, 66, 76, 73, 83, 72]⟩] 46))
   replace hv := hv.below ((Below.refl _ _).alloc (ρ _) (.cells #[.string ⟨#[70, 114, 111, 109]⟩, .string ⟨#[60, 115, 105, 112, 58, 97, 64, 98, 62, 59, 116, 97, 103, 61, 49]⟩, .string ⟨#[84, 111]⟩, .string ⟨#[60, 115, 105, 112, 58, 97, 64, 98, 62, 59, 116, 97, 103, 61, 120]⟩, .string ⟨#[67, 97, 108, 108, 45, 73, 68]⟩, .string ⟨#[57]⟩, .string ⟨#[67, 83, 101, 113]⟩, .string ⟨#[49, 32, 80, 85, 66, 76, 73, 83, 72]⟩] 46)) (ρ _)
   go_upto_region 18 with (first | (at_builtin; refine wpList_appHs (base := go + 1) (L := [⟨nVia, [83, 73, 80, 47, 50, 46, 48, 47, 85, 68, 80, 32, 99, 59, 98, 114, 97, 110, 99, 104, 61, 122, 57, 104, 71, 52, 98, 75, 49]⟩]) (M := [⟨nFrom, [60, 115, 105, 112, 58, 97, 64, 98, 62, 59, 116, 97, 103, 61, 49]⟩, ⟨nTo, [60, 115, 105, 112, 58, 97, 64, 98, 62, 59, 116, 97, 103, 61, 120]⟩, ⟨nCall, [57]⟩, ⟨nCseq, [49, 32, 80, 85, 66, 76, 73, 83, 72]⟩]) rfl rfl Tryz.underlying22 infoH rfl (RHdrs.blk (L := [⟨nFrom, [60, 115, 105, 112, 58, 97, 64, 98, 62, 59, 116, 97, 103, 61, 49]⟩, ⟨nTo, [60, 115, 105, 112, 58, 97, 64, 98, 62, 59, 116, 97, 103, 61, 120]⟩, ⟨nCall, [57]⟩, ⟨nCseq, [49, 32, 80, 85, 66, 76, 73, 83, 72]⟩]) (Blk.new _ _ _) (by decide) (by decide)) rfl hv (Below.refl _ _) hS.bo.lt (by decide) ?_; intro v1 w4 hv1 hb1; replace hS := hS.low hb1; clear hb1 hv; have hv : Hdrs w4 (go + 1) v1 ansH10 := hv1; clear hv1; obtain ⟨vo1, vc1, rfl⟩ := hdrs_to hv) | ((with_reducible refine holdStore 22 rfl ?_); unfold Hold; refine wpList_storeC (off := 4) (v := .slice vo1 ansH10.length vc1) (cs' := #[.string ⟨#[]⟩, .string ⟨#[]⟩, .int .i64 200, .string ⟨#[79, 75]⟩, .slice vo1 ansH10.length vc1, .string ⟨#[]⟩]) rfl rfl rfl rfl (by kernel_rfl) hS.bo (Nat.le_of_ble_eq_true (by kernel_rfl)) (by kernel_rfl) (by kernel_rfl) (by kernel_rfl) ?_; intro w8 b8 hf8 hs8 hl8; replace hv := hv.far (Nat.lt_succ_self go) hf8 hs8; replace hS := hS.store b8 hf8 hl8; clear b8 hf8 hs8 hl8))
   clear o4 r27'
   have o4 := boxedCell hS.bo 4
   simp only [List.getElem?_toArray, List.getElem?_cons_succ, List.getElem?_cons_zero] at o4
   go_upto_region 19 with (first | (at_builtin; refine wpList_appHs (base := go + 1) (L := ansH10) (M := []) rfl rfl Tryz.underlying22 infoH rfl (RHdrs.nil _) rfl hv (Below.refl _ _) hS.bo.lt (by decide) ?_; intro v1 w4 hv1 hb1; replace hS := hS.low hb1; clear hb1 hv; have hv : Hdrs w4 (go + 1) v1 ansH10 := hv1; clear hv1; obtain ⟨vo2, vc2, rfl⟩ := hdrs_to hv) | ((with_reducible refine holdStore 22 rfl ?_); unfold Hold; refine wpList_storeC (off := 4) (v := .slice vo2 ansH10.length vc2) (cs' := #[.string ⟨#[]⟩, .string ⟨#[]⟩, .int .i64 200, .string ⟨#[79, 75]⟩, .slice vo2 ansH10.length vc2, .string ⟨#[]⟩]) rfl rfl rfl rfl (by kernel_rfl) hS.bo (Nat.le_of_ble_eq_true (by kernel_rfl)) (by kernel_rfl) (by kernel_rfl) (by kernel_rfl) ?_; intro w8 b8 hf8 hs8 hl8; replace hv := hv.far (Nat.lt_succ_self go) hf8 hs8; replace hS := hS.store b8 hf8 hl8; clear b8 hf8 hs8 hl8))
   clear o4
   go_wp2_with (first | ((with_reducible refine holdLoad 24 rfl ?_); unfold Hold; refine wpList_loadB rfl rfl rfl Tryz.underlying24 (by kernel_rfl) hS.bo (whole _) ?_) | (go_at_call 52; refine (HPR.out _ _ hv.read).mono ?_; rintro e w5 ⟨rfl, hC⟩; replace hS := hS.call hC))
   go_ret2
   exact ⟨rfl, hS.hB⟩
end Go.Proofs.YtgkilllbkljibaaGreatDoor
