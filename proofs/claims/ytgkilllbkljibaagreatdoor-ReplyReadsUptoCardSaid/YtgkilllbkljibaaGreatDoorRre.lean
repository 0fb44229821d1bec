/- Contracts of Go functions, and plain laws. No condition but those told. -/
import Derived.Test.YtgkilllbkljibaaGreatDoorRdc
import Derived.Test.YtgkilllbkljibaaGreatDoorRmu
import Derived.Test.YtgkilllbkljibaaGreatDoorRog
import Derived.Test.YtgkilllbkljibaaGreatDoorRal
import Derived.Deep.RegionHeld3
import Derived.Deep.CutRange
import Derived.Deep.Cut
set_option linter.unusedSimpArgs false
set_option linter.unusedVariables false
set_option maxRecDepth 100000
namespace Go.Proofs.YtgkilllbkljibaaGreatDoor
open Go.RowKit Go.Sort
theorem oneR1 (H : List Hdr) (r : Rqt) : oneR H nExp r (fun s => { r with exp := (timeS s).1 }) = { r with exp := got H nExp r.exp (fun s => (timeS s).1) } := by unfold oneR got; rcases allS H nExp with _ | ⟨x, _ | ⟨y, t⟩⟩ <;> rfl
theorem oneR2 (H : List Hdr) (r : Rqt) : oneR H nEvent r (fun s => { r with evn := (evS s).1.1, evp := (evS s).1.2 }) = { r with evn := got H nEvent r.evn (fun s => (evS s).1.1), evp := got H nEvent r.evp (fun s => (evS s).1.2) } := by unfold oneR got; rcases allS H nEvent with _ | ⟨x, _ | ⟨y, t⟩⟩ <;> rfl
theorem oneR3 (H : List Hdr) (r : Rqt) : oneR H nContact r (fun s => { r with contact := (listA s).1 }) = { r with contact := got H nContact r.contact (fun s => (listA s).1) } := by unfold oneR got; rcases allS H nContact with _ | ⟨x, _ | ⟨y, t⟩⟩ <;> rfl
theorem oneR4 (H : List Hdr) (r : Rqt) : oneR H nType r (fun s => { r with typ := typeOf s }) = { r with typ := got H nType r.typ typeOf } := by unfold oneR got; rcases allS H nType with _ | ⟨x, _ | ⟨y, t⟩⟩ <;> rfl
theorem oneR5 (H : List Hdr) (r : Rqt) : oneR H nMatch r (fun s => { r with mat := s }) = { r with mat := got H nMatch r.mat id } := by unfold oneR got; rcases allS H nMatch with _ | ⟨x, _ | ⟨y, t⟩⟩ <;> rfl
set_option maxRecDepth 100000 in
set_option maxHeartbeats 12800000 in
theorem readRq_c (M TG RS B : ByteArray) (X : Int) (u : Value) (H : List Hdr) (w : World) (hm : Ml w) (hu : RHdrs w u H) (hb : ∀ h ∈ H, h.name.length ≤ 1048576 ∧ h.value.length ≤ 1048576) (hH : H.length ≤ 1048576) (hT : TG.size ≤ 4294967280) :
  Calls Tryz.prog 9 #[.agg #[.string M, .string TG, .int .i64 X, .string RS, u, .string B]] w (RPost (readS ⟨us M, us TG, X, us RS, H, us B⟩) w) := by
 have HM := κ hm
 have HU := κ (fun (wx : World) (h : Below w.heap.size w wx) => hu.below h (ρ _))
 obtain ⟨mo, mc, rfl, _, _⟩ := hu.form
 have HBD := κ hb
 have HHL := κ hH
 have HMU := κ (fun (wx : World) (h : Below w.heap.size w wx) => must_c M TG RS B X _ H wx (hm.below h) (hu.below h (ρ _)) hb hH)
 unfold MPost at HMU
 obtain ⟨mg, hmg⟩ : ∃ x : Mg, x = ⟨us M, us TG, X, us RS, H, us B⟩ := ⟨_, rfl⟩
 rw [← hmg] at HMU ⊢
 have HFL := κ (must_flds mg)
 obtain ⟨⟨r, c⟩, hr0⟩ : ∃ x, x = mustS mg := ⟨_, rfl⟩
 rw [← hr0] at HMU HFL
 dsimp only at HMU HFL
 have HR := κ hr0.symm
 have HMH : Hid (mg.hdrs = H) := κ (by rw [hmg])
 have HMT : Hid (mg.target = us TG) := κ (by rw [hmg])
 have HPU := κ (fun (wx : World) (h : Below w.heap.size w wx) => parseU_c TG hT wx (hm.below h))
 unfold UriPost sv at HPU
 have HPA := κ (fun (s : List UInt8) (hs : s.length ≤ 1048576) (wx : World) (h : Below w.heap.size w wx) => parseA_c (bs s) (by rw [size_bs]; omega) wx (hm.below h))
 have HPB := κ (fun n => pieces_bd 1048576 H n (fun x hx => (hb x hx).2))
 clear hm hu hb hr0 hmg
 by_cases hc : c = 0
 rotate_left
 ·have t1 : (c != 0) = true := by simpa using hc
  have HC := κ hc
  clear hc
  go_enter Tryz.func9, Tryz.ntmps9
  go_upto_region 1 with fail
  refine any_world (R := Code.wp _ _ _ _) (fun x => Blk x w.heap.size 24 #[.string M, .string TG, .int .i64 X, .string RS, .slice mo H.length mc, .string B] ∧ Blk x (w.heap.size + 1) 37 zrow ∧ Below w.heap.size w x) (show Blk ((w.alloc (.cells #[.string M, .string TG, .int .i64 X, .string RS, .slice mo H.length mc, .string B] 24)).alloc (.cells zrow 37)) _ _ _ ∧ Blk ((w.alloc (.cells #[.string M, .string TG, .int .i64 X, .string RS, .slice mo H.length mc, .string B] 24)).alloc (.cells zrow 37)) _ _ _ ∧ Below _ w ((w.alloc (.cells #[.string M, .string TG, .int .i64 X, .string RS, .slice mo H.length mc, .string B] 24)).alloc (.cells zrow 37)) from ⟨(Blk.new w _ _).alloc _, by have := Blk.new (w.alloc (.cells #[.string M, .string TG, .int .i64 X, .string RS, .slice mo H.length mc, .string B] 24)) 37 zrow; rwa [World.size_alloc] at this, ((Below.refl _ _).alloc (ρ _) _).alloc (by rw [World.size_alloc]; omega) _⟩) ?_
  rintro wr ⟨bm, b2, hB⟩
  go_upto_region 2 with (first | ((with_reducible refine holdLoad 24 rfl ?_); unfold Hold; refine wpList_loadB rfl rfl rfl Tryz.underlying24 (by kernel_rfl) bm (whole _) ?_) | (go_at_call 19; refine (HMU.out _ hB).mono ?_; rintro e w1 ⟨xs, rfl, h38, hone, hrr, hC⟩; replace bm := bm.call hC; replace b2 := b2.call hC; replace hB := hB.trans (hC.mono hB.size)) | ((with_reducible refine holdStore 37 rfl ?_); unfold Hold; refine wpList_storeNew (vs := xs) rfl rfl rfl rfl (by rw [h38]; rfl) (by rw [h38]; rfl) hone ?_; refine wpList_to (fun x => Blk x w.heap.size 24 #[.string M, .string TG, .int .i64 X, .string RS, .slice mo H.length mc, .string B] ∧ Blk x (w.heap.size + 1) 37 zrow ∧ Blk x w1.heap.size 37 xs ∧ Below w.heap.size w x ∧ Below w1.heap.size w1 x) ⟨bm.alloc _, b2.alloc _, Blk.new _ _ _, hB.alloc hB.size _, (Below.refl _ _).alloc (ρ _) _⟩ ?_; have l1 := b2.lt; clear bm b2 hB hC; rintro wy ⟨bm, b2, br, hB, hK⟩))
  go_wp2_with ((with_reducible refine holdStore 37 rfl ?_); unfold Hold; refine wpList_storeB (vs := zrow) rfl rfl rfl rfl (by kernel_rfl) b2 (Nat.le_of_eq (by kernel_rfl)) (by kernel_rfl) (setAll_whole (by kernel_rfl)) ?_; intro w9 bz9 hfar9 hsz9 hbel9)
  refine bodyPost_ret (results_ct rfl rfl rfl Tryz.underlying37 (by kernel_rfl) bz9) rfl ?_
  exact rEnd (readS_0 HR.out HC.out) (hB.trans (hbel9 _ (by omega)))
 subst hc
 rw [readS_at HR.out]
 go_enter Tryz.func9, Tryz.ntmps9
 go_upto_region 1 with fail
 refine any_world (R := Code.wp _ _ _ _) (fun x => Blk x w.heap.size 24 #[.string M, .string TG, .int .i64 X, .string RS, .slice mo H.length mc, .string B] ∧ Blk x (w.heap.size + 1) 37 zrow ∧ Below w.heap.size w x) (show Blk ((w.alloc (.cells #[.string M, .string TG, .int .i64 X, .string RS, .slice mo H.length mc, .string B] 24)).alloc (.cells zrow 37)) _ _ _ ∧ Blk ((w.alloc (.cells #[.string M, .string TG, .int .i64 X, .string RS, .slice mo H.length mc, .string B] 24)).alloc (.cells zrow 37)) _ _ _ ∧ Below _ w ((w.alloc (.cells #[.string M, .string TG, .int .i64 X, .string RS, .slice mo H.length mc, .string B] 24)).alloc (.cells zrow 37)) from ⟨(Blk.new w _ _).alloc _, by have := Blk.new (w.alloc (.cells #[.string M, .string TG, .int .i64 X, .string RS, .slice mo H.length mc, .string B] 24)) 37 zrow; rwa [World.size_alloc] at this, ((Below.refl _ _).alloc (ρ _) _).alloc (by rw [World.size_alloc]; omega) _⟩) ?_
 rintro wr ⟨bm, b2, hB⟩
 go_upto_region 2 with (first | ((with_reducible refine holdLoad 24 rfl ?_); unfold Hold; refine wpList_loadB rfl rfl rfl Tryz.underlying24 (by kernel_rfl) bm (whole _) ?_) | (go_at_call 19; refine (HMU.out _ hB).mono ?_; rintro e w1 ⟨xs, rfl, h38, hone, hrr, hC⟩; replace bm := bm.call hC; replace b2 := b2.call hC; replace hB := hB.trans (hC.mono hB.size)) | ((with_reducible refine holdStore 37 rfl ?_); unfold Hold; refine wpList_storeNew (vs := xs) rfl rfl rfl rfl (by rw [h38]; rfl) (by rw [h38]; rfl) hone ?_; refine wpList_to (fun x => Blk x w.heap.size 24 #[.string M, .string TG, .int .i64 X, .string RS, .slice mo H.length mc, .string B] ∧ Blk x (w.heap.size + 1) 37 zrow ∧ Blk x w1.heap.size 37 xs ∧ Below w.heap.size w x ∧ Below w1.heap.size w1 x) ⟨bm.alloc _, b2.alloc _, Blk.new _ _ _, hB.alloc hB.size _, (Below.refl _ _).alloc (ρ _) _⟩ ?_; have l1 := b2.lt; clear bm b2 hB hC; rintro wy ⟨bm, b2, br, hB, hK⟩))
 go_upto_region 5 with ((with_reducible refine holdLoad 24 rfl ?_); unfold Hold; refine wpList_loadB rfl rfl rfl Tryz.underlying24 (by kernel_rfl) bm (whole _) ?_)
 have hS0 : RSt w w1 #[.string M, .string TG, .int .i64 X, .string RS, .slice mo H.length mc, .string B] wy.heap.size xs (x7 M TG RS B X (.slice mo H.length mc) 0) (wy.alloc (.cells (x7 M TG RS B X (.slice mo H.length mc) 0) 58)) := ⟨bm.alloc _, b2.alloc _, br.alloc _, Blk.new _ _ _, hB.alloc hB.size _, hK.alloc hK.size _, l1, br.lt⟩
 obtain ⟨k1, k2, k3, k4, k5, k6, k7, k8, k9⟩ := HFL.out (by first | rfl | trivial)
 have hq0 : RQF w1.heap.size wy.heap.size (wy.alloc (.cells (x7 M TG RS B X (.slice mo H.length mc) 0) 58)) (.agg xs) r := (RQF.old (hrr (by first | rfl | trivial)) (ρ _) br.lt k1 k2 k3).kp br.lt (KeptB.of_below (hK.alloc hK.size _))
 have HKK := κ (And.intro k5 (And.intro k6 (And.intro k7 (And.intro k1 (And.intro k8 k9)))))
 clear k1 k2 k3 k4 k5 k6 k7 k8 k9
 refine any_world (R := Code.wp _ _ _ _) (fun x => RSt w w1 #[.string M, .string TG, .int .i64 X, .string RS, .slice mo H.length mc, .string B] wy.heap.size xs (x7 M TG RS B X (.slice mo H.length mc) 0) x ∧ RQF w1.heap.size wy.heap.size x (.agg xs) r) ⟨hS0, hq0⟩ ?_
 clear hS0 hq0 bm b2 br hB hK hrr
 rintro wz ⟨hS, hq⟩
 obtain ⟨gx, hgx⟩ : ∃ x, x = wy.heap.size := ⟨_, rfl⟩
 rw [← hgx] at hS hq ⊢
 clear hgx
 obtain ⟨⟨ua, ue⟩, hua⟩ : ∃ x, x = parseU (us TG) := ⟨_, rfl⟩
 rw [← hua] at HPU
 dsimp only at HPU
 have HUA := κ hua
 clear hua
 obtain ⟨usc, uus, uho, upo, ups, uhs⟩ := ua
 dsimp only at HPU
 have p1 : wz.cell? ⟨w.heap.size, 1, none⟩ = some (.string TG) := boxedCell hS.bm 1
 go_upto_region 6 with (first | (go_at_call 20; refine (HPU.out _ hS.hB).mono ?_; rintro e w2 ⟨v1, v2, rfl, j1, j2, f1, f2, hC⟩; obtain ⟨a1, b1, rfl⟩ := j1.form'; obtain ⟨a2, b2, rfl⟩ := j2.form'; have hgz := hS.bx.lt; replace hq := (hq.kp hS.l2 (KeptB.of_below hC)).tgt_ (a := ⟨usc, uus, uho, upo, ups, uhs⟩) (RP2.new j1 f1 hS.l2 hgz) (RP2.new j2 f2 hS.l2 hgz); replace hS := hS.call hC; clear p1 j1 j2 f1 f2 hC hgz) | ((with_reducible refine holdStore 29 rfl ?_); unfold Hold; refine wpList_storeB (off := 1) (vs := #[.string (bs usc), .string (bs uus), .string (bs uho), .int .i64 upo, .slice a1 ups.length b1, .slice a2 uhs.length b2]) (cs' := setAll xs 1 [.string (bs usc), .string (bs uus), .string (bs uho), .int .i64 upo, .slice a1 ups.length b1, .slice a2 uhs.length b2]) rfl rfl rfl rfl (by kernel_rfl) hS.br (by rw [h38]; exact Nat.le_of_ble_eq_true (by kernel_rfl)) (by kernel_rfl) rfl ?_; intro w8 b8 hf8 hs8 hl8; replace hS := hS.storeR b8 hf8 hs8 hl8; replace hq := hq.kp hS.l2 (KeptB.store1 hf8 hs8); clear b8 hf8 hs8 hl8) | ((with_reducible refine holdStore 38 rfl ?_); unfold Hold; refine wpList_storeC (off := 6) (v := .int .i64 ue) (cs' := x7 M TG RS B X (.slice mo H.length mc) ue) rfl rfl rfl rfl (by kernel_rfl) hS.bx (Nat.le_of_ble_eq_true (by kernel_rfl)) (by kernel_rfl) (by kernel_rfl) (by kernel_rfl) ?_; intro w8 b8 hf8 hs8 hl8; replace hS := hS.storeX b8 hf8 hs8 hl8; replace hq := hq.kp hS.l2 (KeptB.store2 hf8 hs8); clear b8 hf8 hs8 hl8))
 unfold sv at hq
 have hf6 := hq.from_
 rw [show (⟨usc, uus, uho, upo, ups, uhs⟩ : Uri) = (parseU (us TG)).1 by rw [← HUA.out]] at hq
 generalize hrs1 : setAll xs 1 [.string (bs usc), .string (bs uus), .string (bs uho), .int .i64 upo, .slice a1 ups.length b1, .slice a2 uhs.length b2] = rs1 at hS hq hf6
 clear hrs1
 dsimp only at hf6
 obtain ⟨E0, hE0⟩ : ∃ x, x = err0 mg r := ⟨_, rfl⟩
 have HE0 := κ hE0
 clear hE0
 have HE6 : (ue = 0 ∧ r.fromT = [] ∧ E0 = 100) ∨ (ue = 0 ∧ r.fromT ≠ [] ∧ E0 = 0) ∨ (ue ≠ 0 ∧ E0 = ue) := by
  by_cases h1 : ue = 0
  ·by_cases h2 : r.fromT = []
   ·exact .inl ⟨h1, h2, by rw [HE0.out]; unfold err0; rw [HMT.out, ← HUA.out, if_neg (fun h => h h1), if_pos h2]⟩
   ·exact .inr (.inl ⟨h1, h2, by rw [HE0.out]; unfold err0; rw [HMT.out, ← HUA.out, if_neg (fun h => h h1), if_neg h2]⟩)
  ·exact .inr (.inr ⟨h1, by rw [HE0.out]; unfold err0; rw [HMT.out, ← HUA.out, if_pos h1]⟩)
 have q6 := boxedCell hS.bx 6
 unfold x7 at q6
 simp only [List.getElem?_toArray, List.getElem?_cons_succ, List.getElem?_cons_zero] at q6
 have z25 := (boxedCell hS.br 25).trans hf6
 clear hf6
 rcases HE6 with ⟨hue, hft, HE⟩ | ⟨hue, hft, HE⟩ | ⟨hue, HE⟩
 all_goals first
  | (have h0 : r.fromT = [] := hft; have HEH := κ HE; rw [hue] at q6; rw [hft, show (bs ([] : List UInt8)) = ByteArray.empty from rfl] at z25; clear hue hft HE h0; go_upto_region 8 with ((with_reducible refine holdStore 38 rfl ?_); unfold Hold; refine wpList_storeC (off := 6) (v := .int .i64 100) (cs' := x7 M TG RS B X (.slice mo H.length mc) 100) rfl rfl rfl rfl (by kernel_rfl) hS.bx (Nat.le_of_ble_eq_true (by kernel_rfl)) (by kernel_rfl) (by kernel_rfl) (by kernel_rfl) ?_; intro w8 b8 hf8 hs8 hl8; replace hS := hS.storeX b8 hf8 hs8 hl8; replace hq := hq.kp hS.l2 (KeptB.store2 hf8 hs8); clear b8 hf8 hs8 hl8); clear q6 z25; rw [← HEH.out] at hS; clear HEH)
  | (have h0 : r.fromT ≠ [] := hft; have HEH := κ HE; have pz : (bs r.fromT).size ≠ 0 := (by rw [size_bs]; exact fun h => hft (List.length_eq_zero_iff.1 h)); have pI : r.fromT.isEmpty = false := (by cases hh : r.fromT with | nil => exact absurd hh hft | cons => rfl); rw [hue] at q6 hS; clear hue hft HE h0 pz; go_upto_region 8 with fail; clear q6 z25 pI; rw [← HEH.out] at hS; clear HEH)
  | (have h0 : ue ≠ 0 := hue; have HEH := κ HE; have tne : (ue == 0) = false := (by simpa using hue); clear hue HE h0; go_upto_region 8 with fail; clear q6 z25 tne; rw [← HEH.out] at hS; clear HEH)
 all_goals (
  have hq0 : E0 = 0 → RQF w1.heap.size gx _ (.agg rs1) { r with tgt := (parseU (us TG)).1 } := fun _ => hq
  clear hq
  go_upto_region 9 with (go_at_call 21; refine (oneG_c 22 ⟨#[69, 120, 112, 105, 114, 101, 115]⟩ (by decide) _ _ M TG RS B X _ H E0 w1.heap.size gx hS.l2 _ _ _ (HM.out.below hS.hB) (HU.out _ hS.hB) HBD.out HHL.out hS.bx hS.br (fun h => (hq0 h).size) hq0 (rdc1 hS.l2) (callF Tryz.func22 rfl rfl)).mono ?_; rintro e w2 ⟨rfl, bx2, ⟨rs2, br2, hq1⟩, hK⟩; rw [show us ⟨#[69, 120, 112, 105, 114, 101, 115]⟩ = nExp from rfl] at bx2 hq1; simp only [oneR1] at hq1; replace hS := hS.kp hK br2 bx2; clear hq0 bx2 br2 hK)
  obtain ⟨E1, hE1⟩ : ∃ x, x = one1 H nExp E0 (fun s => (timeS s).2) := ⟨_, rfl⟩
  rw [← hE1] at hS hq1
  have HE1 : Hid (E1 = err1 mg r) := κ (by rw [hE1, HE0.out]; unfold err1; rw [HMH.out])
  clear hE1
  go_upto_region 10 with (go_at_call 21; refine (oneG_c 24 ⟨#[69, 118, 101, 110, 116]⟩ (by decide) _ _ M TG RS B X _ H E1 w1.heap.size gx hS.l2 _ _ _ (HM.out.below hS.hB) (HU.out _ hS.hB) HBD.out HHL.out hS.bx hS.br (fun h => (hq1 h).size) hq1 (rdc2 hS.l2) (callF Tryz.func24 rfl rfl)).mono ?_; rintro e w2 ⟨rfl, bx2, ⟨rs2, br2, hq2⟩, hK⟩; rw [show us ⟨#[69, 118, 101, 110, 116]⟩ = nEvent from rfl] at bx2 hq2; simp only [oneR2] at hq2; replace hS := hS.kp hK br2 bx2; clear hq1 bx2 br2 hK)
  obtain ⟨E2, hE2⟩ : ∃ x, x = one1 H nEvent E1 (fun s => (evS s).2) := ⟨_, rfl⟩
  rw [← hE2] at hS hq2
  have HE2 : Hid (E2 = err2 mg r) := κ (by rw [hE2, HE1.out]; unfold err2; rw [HMH.out])
  clear hE2
  go_upto_region 11 with (go_at_call 21; refine (oneG_c 26 ⟨#[67, 111, 110, 116, 97, 99, 116]⟩ (by decide) _ _ M TG RS B X _ H E2 w1.heap.size gx hS.l2 _ _ _ (HM.out.below hS.hB) (HU.out _ hS.hB) HBD.out HHL.out hS.bx hS.br (fun h => (hq2 h).size) hq2 (rdc3 hS.l2) (callF Tryz.func26 rfl rfl)).mono ?_; rintro e w2 ⟨rfl, bx2, ⟨rs2, br2, hq3⟩, hK⟩; rw [show us ⟨#[67, 111, 110, 116, 97, 99, 116]⟩ = nContact from rfl] at bx2 hq3; simp only [oneR3] at hq3; replace hS := hS.kp hK br2 bx2; clear hq2 bx2 br2 hK)
  obtain ⟨E3, hE3⟩ : ∃ x, x = one1 H nContact E2 (fun s => (listA s).2) := ⟨_, rfl⟩
  rw [← hE3] at hS hq3
  have HE3 : Hid (E3 = err3 mg r) := κ (by rw [hE3, HE2.out]; unfold err3; rw [HMH.out])
  clear hE3
  go_upto_region 12 with (go_at_call 21; refine (oneG_c 28 ⟨#[67, 111, 110, 116, 101, 110, 116, 45, 84, 121, 112, 101]⟩ (by decide) _ _ M TG RS B X _ H E3 w1.heap.size gx hS.l2 _ _ _ (HM.out.below hS.hB) (HU.out _ hS.hB) HBD.out HHL.out hS.bx hS.br (fun h => (hq3 h).size) hq3 (rdc4 hS.l2) (callF Tryz.func28 rfl rfl)).mono ?_; rintro e w2 ⟨rfl, bx2, ⟨rs2, br2, hq4⟩, hK⟩; rw [show us ⟨#[67, 111, 110, 116, 101, 110, 116, 45, 84, 121, 112, 101]⟩ = nType from rfl] at bx2 hq4; simp only [oneR4] at hq4; replace hS := hS.kp hK br2 bx2; clear hq3 bx2 br2 hK)
  obtain ⟨E4, hE4⟩ : ∃ x, x = one1 H nType E3 (fun _ => 0) := ⟨_, rfl⟩
  rw [← hE4] at hS hq4
  have HE4 : Hid (E4 = err4 mg r) := κ (by rw [hE4, HE3.out]; unfold err4; rw [HMH.out])
  clear hE4
  go_upto_region 13 with (go_at_call 21; refine (oneG_c 30 ⟨#[83, 73, 80, 45, 73, 102, 45, 77, 97, 116, 99, 104]⟩ (by decide) _ _ M TG RS B X _ H E4 w1.heap.size gx hS.l2 _ _ _ (HM.out.below hS.hB) (HU.out _ hS.hB) HBD.out HHL.out hS.bx hS.br (fun h => (hq4 h).size) hq4 (rdc5 hS.l2) (callF Tryz.func30 rfl rfl)).mono ?_; rintro e w2 ⟨rfl, bx2, ⟨rs2, br2, hq5⟩, hK⟩; rw [show us ⟨#[83, 73, 80, 45, 73, 102, 45, 77, 97, 116, 99, 104]⟩ = nMatch from rfl] at bx2 hq5; simp only [oneR5] at hq5; replace hS := hS.kp hK br2 bx2; clear hq4 bx2 br2 hK)
  obtain ⟨E5, hE5⟩ : ∃ x, x = one1 H nMatch E4 (fun s => if token s = true then 0 else 160) := ⟨_, rfl⟩
  rw [← hE5] at hS hq5
  have HE5 : Hid (E5 = err5 mg r) := κ (by rw [hE5, HE4.out]; unfold err5; rw [HMH.out])
  clear hE5
  have q6 : w2.cell? ⟨gx, 6, none⟩ = some (.int .i64 E5) := boxedCell hS.bx 6
  by_cases h5 : E5 = 0
  rotate_left
  ·have t1 : (E5 != 0) = true := by simpa using h5
   have HQ : read2 mg r = (rq0, E5) := by rw [HE5.out]; exact read2_1 (by rw [← HE5.out]; exact h5)
   clear h5
   go_upto_region 14 with fail
   refine wp_region_held_drew (S := fun wx => Blk wx gx 58 #[.string M, .string TG, .int .i64 X, .string RS, .slice mo H.length mc, .string B, .int .i64 E5]) (by kernel_rfl) (Blk.drw hS.bx) (fun hHeld => ?_)
   clear q6
   have b2 := Blk.drw hS.b2
   have bx := Blk.drw hS.bx
   have hBd := zDrew hS.hB
   refine tkH 0 ?_
   try simp only [Act.put, agT]
   refine tkH 1 ?_
   try simp only [Act.put, agT]
   refine tkH 2 ?_
   try simp only [Act.put, agT]
   refine tkH 3 ?_
   try simp only [Act.put, agT]
   refine tkH 4 ?_ (v := .int .i64 E5) (hy := by intro wx hSw; have c1 : wx.cell? ⟨gx, 6, none⟩ = some (.int .i64 E5) := boxedCell hSw 6; go_simp)
   try simp only [Act.put, agT]
   refine rdyH 5 (fun K hK => ?_)
   rw [if_pos (by rfl)]
   refine op_storeB (off := 0) (vs := zrow) (cs' := zrow) rfl rfl rfl (by kernel_rfl) b2 (Nat.le_of_ble_eq_true (by kernel_rfl)) (by kernel_rfl) (setAll_whole (by kernel_rfl)) ?_
   intro w9 bz9 hfar9 hsz9 hbel9
   replace bx := (hfar9 gx (by have h1 := hS.l1; have h2 := hS.l2; omega)).trans bx
   refine hK.out _ _ ?_ (fun hHeld => ?_)
   focus ((try dsimp only); exact bx)
   clear hK K
   try simp only [Act.put, agT]
   refine tkH 6 ?_
   try simp only [Act.put, agT]
   refine wpAnyH_done (by kernel_rfl) ?_ _
   go_wp2
   refine bodyPost_ret (results_ct rfl rfl rfl Tryz.underlying37 (by kernel_rfl) bz9) rfl ?_
   exact rEnd HQ (hBd.trans (hbel9 _ (by omega)))
  subst h5
  have hq := hq5 (by first | rfl | trivial)
  clear hq5
  have hr38 := hq.size
  go_upto_region 16 with (first | (go_at_call 32; refine (allT_c 0 M TG RS B X _ H gx ⟨#[65, 99, 99, 101, 112, 116]⟩ (by decide) _ hS.bx (HU.out _ hS.hB) HBD.out HHL.out).mono ?_; rintro e w3 ⟨v3, rfl, hv3, hC⟩; rw [show us ⟨#[65, 99, 99, 101, 112, 116]⟩ = nAccept from rfl] at hv3; have hv3' := RS2.new hv3 hS.l2 hS.bx.lt; obtain ⟨aoA, acA, rfl⟩ := row_formM hv3; replace hq := (hq.kp hS.l2 (KeptB.of_below hC)).acc_ hv3'; replace hS := hS.call hC; clear hv3 hv3' hC q6) | ((with_reducible refine holdStore 35 rfl ?_); unfold Hold; refine wpList_storeC (off := 34) (v := .slice aoA (piecesS H nAccept).length acA) rfl rfl rfl rfl (by kernel_rfl) hS.br (by rw [hr38]; decide) (by kernel_rfl) (by kernel_rfl) rfl ?_; intro w8 b8 hf8 hs8 hl8; replace hS := hS.storeR b8 hf8 hs8 hl8; replace hq := hq.kp hS.l2 (KeptB.store1 hf8 hs8); clear b8 hf8 hs8 hl8))
  have hr39 := hq.size
  go_upto_region 17 with (first | (go_at_call 32; refine (allT_c 0 M TG RS B X _ H gx ⟨#[82, 101, 99, 111, 114, 100, 45, 82, 111, 117, 116, 101]⟩ (by decide) _ hS.bx (HU.out _ hS.hB) HBD.out HHL.out).mono ?_; rintro e w3 ⟨v3, rfl, hv3, hC⟩; rw [show us ⟨#[82, 101, 99, 111, 114, 100, 45, 82, 111, 117, 116, 101]⟩ = nRecR from rfl] at hv3; have hv3' := RS2.new hv3 hS.l2 hS.bx.lt; obtain ⟨aoR, acR, rfl⟩ := row_formM hv3; replace hq := (hq.kp hS.l2 (KeptB.of_below hC)).rts_ hv3'; replace hS := hS.call hC; clear hv3 hv3' hC) | ((with_reducible refine holdStore 35 rfl ?_); unfold Hold; refine wpList_storeC (off := 33) (v := .slice aoR (piecesS H nRecR).length acR) rfl rfl rfl rfl (by kernel_rfl) hS.br (by rw [hr39]; decide) (by kernel_rfl) (by kernel_rfl) rfl ?_; intro w8 b8 hf8 hs8 hl8; replace hS := hS.storeR b8 hf8 hs8 hl8; replace hq := hq.kp hS.l2 (KeptB.store1 hf8 hs8); clear b8 hf8 hs8 hl8))
  have hR38 := hq.size
  have hR1 := hq.one
  obtain ⟨vA, eA, hvA⟩ := hq.accept_
  obtain ⟨vR, eR, hvR⟩ := hq.routes_
  dsimp only at hvA hvR
  have HQ5 : Hid (err5 mg r = 0) := κ HE5.out.symm
  have HFU : Hid (fullS mg r = { r with tgt := (parseU (us TG)).1, exp := got H nExp r.exp (fun s => (timeS s).1), evn := got H nEvent r.evn (fun s => (evS s).1.1), evp := got H nEvent r.evp (fun s => (evS s).1.2), contact := got H nContact r.contact (fun s => (listA s).1), typ := got H nType r.typ typeOf, mat := got H nMatch r.mat id, accept := piecesS H nAccept, routes := piecesS H nRecR }) := κ (by obtain ⟨a1, a2, a3, a4, a5, a6⟩ := HKK.out; unfold fullS; rw [HMH.out, HMT.out, a1, a2, a3, a4, a5, a6])
  rw [← HFU.out] at hq
  have HPB2 := κ (HPB.out nRecR)
  obtain ⟨LR, hLR⟩ : ∃ x, x = piecesS H nRecR := ⟨_, rfl⟩
  obtain ⟨LA, hLA⟩ : ∃ x, x = piecesS H nAccept := ⟨_, rfl⟩
  rw [← hLR] at hvR HPB2
  rw [← hLA] at hvA
  have HLR : Hid (piecesS mg.hdrs nRecR = LR) := κ (by rw [HMH.out, hLR])
  have HLA : Hid (piecesS mg.hdrs nAccept = LA) := κ (by rw [HMH.out, hLA])
  clear hLR hLA HFU HKK HE0 HE1 HE2 HE3 HE4 HE5
  obtain ⟨oA, cA, rfl, hAm, _⟩ := hvA.1.form
  obtain ⟨oR, cR, rfl, hRm, _⟩ := hvR.1.form
  replace hvR := hvR.1
  clear hvA
  unfold maxLen at hRm hAm
  refine any_world (R := Code.wp _ _ _ _) (fun x => ∃ rsF : Array Value, RSt w w1 #[.string M, .string TG, .int .i64 X, .string RS, .slice mo H.length mc, .string B] gx rsF (x7 M TG RS B X (.slice mo H.length mc) 0) x ∧ RQF w1.heap.size gx x (.agg rsF) (fullS mg r) ∧ rsF.size = 38 ∧ (rsF.toList.all fun v => v.oneCell') = true ∧ rsF[33]? = some (.slice oR LR.length cR) ∧ rsF[34]? = some (.slice oA LA.length cA) ∧ RStrs x (.slice oR LR.length cR) LR) ⟨_, hS, hq, hR38, hR1, eR, eA, hvR⟩ ?_
  clear hS hq hR38 hR1 eR eA hvR
  rintro w5 ⟨rsF, hS, hq, hR38, hR1, eR, eA, hvR⟩
  have z33 := (boxedCell hS.br 33).trans eR
  obtain ⟨_, _, _, _, cR1⟩ := hvR.form
  have HCR := κ cR1
  clear cR1 hvR
  go_wp2
  clear z33
  go_loopw [80] (fun i wr => ∃ k : Nat, k ≤ LR.length ∧ i = .int .i64 k ∧ Hid (Below w5.heap.size w5 wr) ∧ Hid (firstE LR = firstE (LR.drop k))) (fun i _ => LR.length - (intOf i).toNat)
  case atStart => exact ⟨0, Nat.zero_le _, rfl, κ (Below.refl _ _), κ rfl⟩
  case round =>
   obtain ⟨k, hk, rfl, HB, HP⟩ := hrel
   have hS2 := hS.call HB.out
   by_cases hlt : k < LR.length
   ·obtain ⟨b, off, e9, hb1, hc1⟩ := HCR.out (by omega)
    subst e9
    have x0 : wr.cell? ⟨b, off + k, none⟩ = some (.string (bs LR[k])) := (HB.out.cell (p := ⟨b, off + k, none⟩) hb1).trans (hc1 k hlt)
    have HP1 := κ (HPA.out LR[k] (HPB2.out LR[k] (List.getElem_mem hlt)))
    rw [us_bs] at HP1
    unfold AdrPost at HP1
    have hst : firstE LR = if (parseA LR[k]).2 ≠ 0 then (parseA LR[k]).2 else firstE (LR.drop (k + 1)) := by rw [HP.out, List.drop_eq_getElem_cons hlt, firstE_cons]
    obtain ⟨y, hy⟩ : ∃ y, y = parseA LR[k] := ⟨_, rfl⟩
    rw [← hy] at HP1 hst
    obtain ⟨S2, hS9⟩ : ∃ S2, S2 = bs LR[k] := ⟨_, rfl⟩
    rw [← hS9] at x0 HP1
    clear hy hS9 HP hc1
    obtain ⟨⟨d, ⟨sc, ur, ho, n, F, G⟩, L⟩, c⟩ := y
    dsimp only at HP1 hst
    unfold sv at HP1
    have k0 : (0 : Int) ≤ (k : Int) := by omega
    have k1 : (k : Int) < (LR.length : Int) := by omega
    by_cases hc : c = 0
    ·subst hc
     rw [if_neg (fun h => h rfl)] at hst
     have HST := κ hst
     clear hst
     go_wp2_with (first | (go_at_call 33; refine (HP1.out _ hS2.hB).mono ?_; rintro e w3 ⟨u1, u2, u3, rfl, g1, g2, g3, _, _, _, hC⟩; obtain ⟨o1, q1, rfl⟩ := g1.form'; obtain ⟨o2, q2, rfl⟩ := g2.form'; obtain ⟨o3, q3, rfl⟩ := g3.form'; replace hS2 := hS2.call hC; have hBC := HB.out.trans (hC.mono HB.out.size); clear g1 g2 g3 x0) | ((with_reducible refine holdStore 31 rfl ?_); unfold Hold; refine wpList_storeNew (vs := #[.string (bs d), .string (bs sc), .string (bs ur), .string (bs ho), .int .i64 n, .slice o1 F.length q1, .slice o2 G.length q2, .slice o3 L.length q3]) rfl rfl rfl rfl (by kernel_rfl) (by kernel_rfl) (by kernel_rfl) ?_; refine wpList_to (fun x => RSt w w1 #[.string M, .string TG, .int .i64 X, .string RS, .slice mo H.length mc, .string B] gx rsF (x7 M TG RS B X (.slice mo H.length mc) 0) x ∧ Below w5.heap.size w5 x) ⟨hS2.call ((Below.refl _ _).alloc (ρ _) _), hBC.alloc hBC.size _⟩ ?_; clear hS2 hBC hC; rintro w4 ⟨hS2, hBC⟩))
     go_roundw
     case rel => exact ⟨k + 1, by omega, by go_num, κ hBC, HST⟩
     case measure => simp [intOf]; omega
    ·rw [if_pos hc] at hst
     have t0 : (c != 0) = true := by simpa using hc
     have HQ : Hid (read2 mg r = (rq0, c)) := κ (read2_2 HQ5.out (by rw [HLR.out]; exact hst) hc)
     clear hst hc
     go_wp2_with (first | (go_at_call 33; refine (HP1.out _ hS2.hB).mono ?_; rintro e w3 ⟨u1, u2, u3, rfl, g1, g2, g3, _, _, _, hC⟩; obtain ⟨o1, q1, rfl⟩ := g1.form'; obtain ⟨o2, q2, rfl⟩ := g2.form'; obtain ⟨o3, q3, rfl⟩ := g3.form'; replace hS2 := hS2.call hC; have hBC := HB.out.trans (hC.mono HB.out.size); clear g1 g2 g3 x0) | ((with_reducible refine holdStore 31 rfl ?_); unfold Hold; refine wpList_storeNew (vs := #[.string (bs d), .string (bs sc), .string (bs ur), .string (bs ho), .int .i64 n, .slice o1 F.length q1, .slice o2 G.length q2, .slice o3 L.length q3]) rfl rfl rfl rfl (by kernel_rfl) (by kernel_rfl) (by kernel_rfl) ?_; refine wpList_to (fun x => RSt w w1 #[.string M, .string TG, .int .i64 X, .string RS, .slice mo H.length mc, .string B] gx rsF (x7 M TG RS B X (.slice mo H.length mc) 0) x ∧ Below w5.heap.size w5 x) ⟨hS2.call ((Below.refl _ _).alloc (ρ _) _), hBC.alloc hBC.size _⟩ ?_; clear hS2 hBC hC; rintro w4 ⟨hS2, hBC⟩) | ((with_reducible refine holdStore 37 rfl ?_); unfold Hold; refine wpList_storeB (vs := zrow) rfl rfl rfl rfl (by kernel_rfl) hS2.b2 (Nat.le_of_eq (by kernel_rfl)) (by kernel_rfl) (setAll_whole (by kernel_rfl)) ?_; intro w9 bz9 hfar9 hsz9 hbel9))
     refine bodyPost_ret (results_ct rfl rfl rfl Tryz.underlying37 (by kernel_rfl) bz9) rfl ?_
     exact rEnd HQ.out (hS2.hB.trans (hbel9 _ (by omega)))
   ·have HF0 : Hid (firstE (piecesS mg.hdrs nRecR) = 0) := κ (by rw [HLR.out, HP.out, List.drop_eq_nil_iff.2 (by omega)]; rfl)
    clear HP
    have z33 := (boxedCell hS2.br 33).trans eR
    have z34 := (boxedCell hS2.br 34).trans eA
    by_cases hlR : 16 < LR.length
    ·have HQ : Hid (read2 mg r = (rq0, 4)) := κ (read2_3 HQ5.out HF0.out (.inl (by rw [HLR.out]; exact hlR)))
     go_wp2_with ((with_reducible refine holdStore 37 rfl ?_); unfold Hold; refine wpList_storeB (vs := zrow) rfl rfl rfl rfl (by kernel_rfl) hS2.b2 (Nat.le_of_eq (by kernel_rfl)) (by kernel_rfl) (setAll_whole (by kernel_rfl)) ?_; intro w9 bz9 hfar9 hsz9 hbel9)
     refine bodyPost_ret (results_ct rfl rfl rfl Tryz.underlying37 (by kernel_rfl) bz9) rfl ?_
     exact rEnd HQ.out (hS2.hB.trans (hbel9 _ (by omega)))
    have tR : decide ((16 : Int) < (LR.length : Int)) = false := by simp; omega
    have HLR0 := κ hlR
    clear hlR
    by_cases hlA : 16 < LA.length
    ·have HQ : Hid (read2 mg r = (rq0, 4)) := κ (read2_3 HQ5.out HF0.out (.inr (by rw [HLA.out]; exact hlA)))
     have tA : decide ((16 : Int) < (LA.length : Int)) = true := by simp; omega
     clear hlA
     go_wp2_with ((with_reducible refine holdStore 37 rfl ?_); unfold Hold; refine wpList_storeB (vs := zrow) rfl rfl rfl rfl (by kernel_rfl) hS2.b2 (Nat.le_of_eq (by kernel_rfl)) (by kernel_rfl) (setAll_whole (by kernel_rfl)) ?_; intro w9 bz9 hfar9 hsz9 hbel9)
     refine bodyPost_ret (results_ct rfl rfl rfl Tryz.underlying37 (by kernel_rfl) bz9) rfl ?_
     exact rEnd HQ.out (hS2.hB.trans (hbel9 _ (by omega)))
    have HQ : Hid (read2 mg r = (fullS mg r, 0)) := κ (read2_4 HQ5.out HF0.out (by rw [HLR.out]; exact HLR0.out) (by rw [HLA.out]; exact hlA))
    have tA : decide ((16 : Int) < (LA.length : Int)) = false := by simp; omega
    clear hlA
    go_wp2_with (first | ((with_reducible refine holdLoad 37 rfl ?_); unfold Hold; refine wpList_loadB (vs := rsF) rfl rfl rfl Tryz.underlying37 (by rw [hR38]; rfl) hS2.br (whole _) ?_) | ((with_reducible refine holdStore 37 rfl ?_); unfold Hold; refine wpList_storeB (vs := rsF) (cs' := rsF) rfl rfl rfl rfl (by rw [hR38]; rfl) hS2.b2 (by rw [hR38]; exact Nat.le_of_eq (by kernel_rfl)) hR1 (setAll_whole (by rw [hR38]; kernel_rfl)) ?_; intro w9 bz9 hfar9 hsz9 hbel9))
    refine bodyPost_ret (results_ct rfl rfl rfl Tryz.underlying37 (by rw [hR38]; rfl) bz9) rfl ?_
    refine ⟨rsF, congrArg (fun x : Rqt × Int => Ending.returned (.tuple #[.agg rsF, .int .i64 x.2])) HQ.out.symm, ?_, hR38, hR1, hS2.hB.trans (hbel9 _ (by omega))⟩
    rw [HQ.out]
    exact (hq.kp hS.l2 (KeptB.of_below HB.out)).out hS.l2 (by have h1 := hS.l1; have h2 := hS.l2; omega) hS2.b2 (by kernel_rfl) hfar9 hsz9)
end Go.Proofs.YtgkilllbkljibaaGreatDoor
