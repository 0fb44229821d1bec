import Derived.Test.YtgkilllbkljibaaGreatDoorRdc
import Derived.Test.YtgkilllbkljibaaGreatDoorRmu
set_option linter.unusedSimpArgs false
set_option linter.unusedVariables false
namespace Go.Proofs.YtgkilllbkljibaaGreatDoor
open Go.RowKit Go.Sort
set_option maxRecDepth 100000 in
set_option maxHeartbeats 12800000 in
theorem base_c (M TG RS B : ByteArray) (X : Int) (u : Value) (H : List Hdr) (w : World) (hm : Ml w) (hu : RHdrs w u H) (hb : ∀ h ∈ H, h.name.length ≤ 1048576 ∧ h.value.length ≤ 1048576) (hH : H.length ≤ 1048576) :
  Calls Tryz.prog 12 #[.agg #[.string M, .string TG, .int .i64 X, .string RS, u, .string B]] w (RPost (mustS ⟨us M, us TG, X, us RS, H, us B⟩) w) := by
 have HM := Lib.hid hm
 have HU := Lib.hid (fun (wx : World) (h : Below w.heap.size w wx) => hu.below h (Nat.le_refl _))
 obtain ⟨mo, mc, rfl, _, _⟩ := hu.form
 have HBD := Lib.hid hb
 have HHL := Lib.hid hH
 have HMU := Lib.hid (fun (wx : World) (h : Below w.heap.size w wx) => must_c M TG RS B X _ H wx (hm.below h) (hu.below h (Nat.le_refl _)) hb hH)
 unfold MPost at HMU
 obtain ⟨mg, hmg⟩ : ∃ x : Mg, x = ⟨us M, us TG, X, us RS, H, us B⟩ := ⟨_, rfl⟩
 rw [← hmg] at HMU ⊢
 have HFL := Lib.hid (must_flds mg)
 obtain ⟨⟨r, c⟩, hr0⟩ : ∃ x, x = mustS mg := ⟨_, rfl⟩
 rw [← hr0] at HMU HFL
 dsimp only at HMU HFL
 have HR := Lib.hid hr0.symm
 have HMH : Hid (mg.hdrs = H) := Lib.hid (by rw [hmg])
 have HMT : Hid (mg.target = us TG) := Lib.hid (by rw [hmg])
 clear hm hu hb hr0 hmg
 have HE := Lib.hid (must_err mg)
 rw [HR.out] at HE ⊢
 dsimp only at HE
 by_cases hc : c = 0
 rotate_left
 ·have t1 : (c != 0) = true := by simpa using hc
  have HC := Lib.hid hc
  clear hc
  go_enter Tryz.func12, Tryz.ntmps12
  go_upto_region 1 with fail
  refine any_world (R := Code.wp _ _ _ _) (fun x => Blk x w.heap.size 24 #[.string M, .string TG, .int .i64 X, .string RS, .slice mo H.length mc, .string B] ∧ Blk x (w.heap.size + 1) 37 zrow ∧ Below w.heap.size w x) (show Blk ((w.alloc (.cells #[.string M, .string TG, .int .i64 X, .string RS, .slice mo H.length mc, .string B] 24)).alloc (.cells zrow 37)) _ _ _ ∧ Blk ((w.alloc (.cells #[.string M, .string TG, .int .i64 X, .string RS, .slice mo H.length mc, .string B] 24)).alloc (.cells zrow 37)) _ _ _ ∧ Below _ w ((w.alloc (.cells #[.string M, .string TG, .int .i64 X, .string RS, .slice mo H.length mc, .string B] 24)).alloc (.cells zrow 37)) from ⟨(Blk.new w _ _).alloc _, by have := Blk.new (w.alloc (.cells #[.string M, .string TG, .int .i64 X, .string RS, .slice mo H.length mc, .string B] 24)) 37 zrow; rwa [World.size_alloc] at this, ((Below.refl _ _).alloc (Nat.le_refl _) _).alloc (by rw [World.size_alloc]; omega) _⟩) ?_
  rintro wr ⟨bm, b2, hB⟩
  go_upto_region 2 with (first | ((with_reducible refine holdLoad 24 rfl ?_); unfold Hold; refine wpList_loadB (vs := #[.string M, .string TG, .int .i64 X, .string RS, .slice mo H.length mc, .string B]) rfl rfl rfl Tryz.underlying24 (by kernel_rfl) bm (whole _) ?_) | (go_at_call 19; refine (HMU.out _ hB).mono ?_; rintro e w1 ⟨xs, rfl, h38, hone, hrr, hC⟩; replace bm := bm.call hC; replace b2 := b2.call hC; replace hB := hB.trans (hC.mono hB.size)) | ((with_reducible refine holdStore 37 rfl ?_); unfold Hold; refine wpList_storeNew (vs := xs) rfl rfl rfl rfl (by rw [h38]; rfl) (by rw [h38]; rfl) hone ?_; refine wpList_to (fun x => Blk x w.heap.size 24 #[.string M, .string TG, .int .i64 X, .string RS, .slice mo H.length mc, .string B] ∧ Blk x (w.heap.size + 1) 37 zrow ∧ Blk x w1.heap.size 37 xs ∧ Below w.heap.size w x ∧ Below w1.heap.size w1 x) ⟨bm.alloc _, b2.alloc _, Blk.new _ _ _, hB.alloc hB.size _, (Below.refl _ _).alloc (Nat.le_refl _) _⟩ ?_; have l1 := b2.lt; clear bm b2 hB hC; rintro wy ⟨bm, b2, br, hB, hK⟩))
  go_wp2_with ((with_reducible refine holdStore 37 rfl ?_); unfold Hold; refine wpList_storeB (vs := zrow) (cs' := zrow) rfl rfl rfl rfl (by kernel_rfl) b2 (Nat.le_of_eq (by kernel_rfl)) (by kernel_rfl) (setAll_whole (by kernel_rfl)) ?_; intro w9 bz9 hfar9 hsz9 hbel9)
  refine bodyPost_ret (results_ct rfl rfl rfl Tryz.underlying37 (by kernel_rfl) bz9) rfl ?_
  exact rEnd (Prod.ext (HE.out HC.out) rfl) (hB.trans (hbel9 _ (by omega)))
 subst hc
 go_enter Tryz.func12, Tryz.ntmps12
 go_upto_region 1 with fail
 refine any_world (R := Code.wp _ _ _ _) (fun x => Blk x w.heap.size 24 #[.string M, .string TG, .int .i64 X, .string RS, .slice mo H.length mc, .string B] ∧ Blk x (w.heap.size + 1) 37 zrow ∧ Below w.heap.size w x) (show Blk ((w.alloc (.cells #[.string M, .string TG, .int .i64 X, .string RS, .slice mo H.length mc, .string B] 24)).alloc (.cells zrow 37)) _ _ _ ∧ Blk ((w.alloc (.cells #[.string M, .string TG, .int .i64 X, .string RS, .slice mo H.length mc, .string B] 24)).alloc (.cells zrow 37)) _ _ _ ∧ Below _ w ((w.alloc (.cells #[.string M, .string TG, .int .i64 X, .string RS, .slice mo H.length mc, .string B] 24)).alloc (.cells zrow 37)) from ⟨(Blk.new w _ _).alloc _, by have := Blk.new (w.alloc (.cells #[.string M, .string TG, .int .i64 X, .string RS, .slice mo H.length mc, .string B] 24)) 37 zrow; rwa [World.size_alloc] at this, ((Below.refl _ _).alloc (Nat.le_refl _) _).alloc (by rw [World.size_alloc]; omega) _⟩) ?_
 rintro wr ⟨bm, b2, hB⟩
 go_upto_region 2 with (first | ((with_reducible refine holdLoad 24 rfl ?_); unfold Hold; refine wpList_loadB (vs := #[.string M, .string TG, .int .i64 X, .string RS, .slice mo H.length mc, .string B]) rfl rfl rfl Tryz.underlying24 (by kernel_rfl) bm (whole _) ?_) | (go_at_call 19; refine (HMU.out _ hB).mono ?_; rintro e w1 ⟨xs, rfl, h38, hone, hrr, hC⟩; replace bm := bm.call hC; replace b2 := b2.call hC; replace hB := hB.trans (hC.mono hB.size)) | ((with_reducible refine holdStore 37 rfl ?_); unfold Hold; refine wpList_storeNew (vs := xs) rfl rfl rfl rfl (by rw [h38]; rfl) (by rw [h38]; rfl) hone ?_; refine wpList_to (fun x => Blk x w.heap.size 24 #[.string M, .string TG, .int .i64 X, .string RS, .slice mo H.length mc, .string B] ∧ Blk x (w.heap.size + 1) 37 zrow ∧ Blk x w1.heap.size 37 xs ∧ Below w.heap.size w x ∧ Below w1.heap.size w1 x) ⟨bm.alloc _, b2.alloc _, Blk.new _ _ _, hB.alloc hB.size _, (Below.refl _ _).alloc (Nat.le_refl _) _⟩ ?_; have l1 := b2.lt; clear bm b2 hB hC; rintro wy ⟨bm, b2, br, hB, hK⟩))
 go_wp2_with (first | ((with_reducible refine holdLoad 37 rfl ?_); unfold Hold; refine wpList_loadB (vs := xs) rfl rfl rfl Tryz.underlying37 (by rw [h38]; rfl) br (whole _) ?_) | ((with_reducible refine holdStore 37 rfl ?_); unfold Hold; refine wpList_storeB (vs := xs) (cs' := xs) rfl rfl rfl rfl (by rw [h38]; rfl) b2 (by rw [h38]; exact Nat.le_of_eq (by kernel_rfl)) hone (setAll_whole (by rw [h38]; kernel_rfl)) ?_; intro w9 bz9 hfar9 hsz9 hbel9))
 refine bodyPost_ret (results_ct rfl rfl rfl Tryz.underlying37 (by rw [h38]; rfl) bz9) rfl ?_
 obtain ⟨k1, k2, k3, _⟩ := HFL.out (by first | rfl | trivial)
 have hq := ((RQF.old (g2 := w1.heap.size + 1) (hrr (by first | rfl | trivial)) (Nat.le_refl _) (by omega) k1 k2 k3).kp (by omega) (KeptB.of_below hK)).out (by omega) (by omega) b2 (by kernel_rfl) hfar9 hsz9
 exact ⟨xs, rfl, hq, h38, hone, hB.trans (hbel9 _ (by omega))⟩
end Go.Proofs.YtgkilllbkljibaaGreatDoor
