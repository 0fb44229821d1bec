/- Contracts of Go functions, and plain laws. No condition but those told. -/
import Derived.Test.YtgkilllbkljibaaGreatDoorRaz
import Derived.Test.YtgkilllbkljibaaGreatDoorRs0
import Derived.Test.YtgkilllbkljibaaGreatDoorRsm
import Derived.Test.YtgkilllbkljibaaGreatDoorRrr
set_option linter.unusedSimpArgs false
set_option linter.unusedVariables false
set_option maxRecDepth 100000
namespace Go.Proofs.YtgkilllbkljibaaGreatDoor
open Go.RowKit Go.Sort
set_option maxRecDepth 100000 in
set_option maxHeartbeats 12800000 in
theorem replyReads_walk (M TG RS B : ByteArray) (X : Int) (u : Value) (H : List Hdr) (h1 : M.size ≤ 1048576) (h2 : TG.size ≤ 1048576) (h3 : RS.size ≤ 1048576) (h4 : B.size ≤ 1048576) (hH : H.length ≤ 1048576)
  (hb : ∀ h ∈ H, h.name.length ≤ 1048576 ∧ h.value.length ≤ 1048576) (X0 : -9223372036854775808 ≤ X) (X1 : X ≤ 9223372036854775807) (w : World) (hm : Ml w) (hu : RHdrs w u H) :
  Calls Tryz.prog 3 #[.agg #[.string M, .string TG, .int .i64 X, .string RS, u, .string B]] w fun e w' => e = .returned (.bool true) ∧ Below w.heap.size w w' := by
 have HM := κ hm
 have HU := κ hu
 obtain ⟨mo, mc, rfl, _, _⟩ := hu.form
 have HSM := κ (fun (wx : World) (h : Below w.heap.size w wx) => small10_c M TG RS B X (.slice mo H.length mc) H h1 h2 h3 h4 hH hb wx (hu.below h (ρ _)))
 obtain ⟨sb, hsb⟩ : ∃ x, x = decide (size3 M TG B + sumH H ≤ 6000) := ⟨_, rfl⟩
 rw [← hsb] at HSM
 clear hsb
 have HAW := κ (fun wx hx => awake10_c wx hx)
 have HBS := κ (fun (wx : World) (h : Below w.heap.size w wx) => readRq_c M TG RS B X (.slice mo H.length mc) H wx (hm.below h) (hu.below h (ρ _)) hb hH (by omega))
 unfold RPost at HBS
 have HBR := κ (fun (wx : World) (h : Below w.heap.size w wx) => readR10_c M TG RS B X (.slice mo H.length mc) H wx (hu.below h (ρ _)) hb hH (by omega))
 unfold RPost at HBR
 obtain ⟨⟨Q, fc⟩, hQ⟩ : ∃ x, x = readS ⟨us M, us TG, X, us RS, H, us B⟩ := ⟨_, rfl⟩
 rw [← hQ] at HBS HBR
 dsimp only at HBS HBR
 have HSM2 := κ (fun wx va vb ha hb => same10_c va vb Q wx ha hb)
 clear hQ hm hu hb
 go_enter Tryz.func3, Tryz.ntmps3
 go_upto_region 1 with fail
 refine any_world (R := Code.wp _ _ _ _) (fun x => Blk x w.heap.size 24 #[.string M, .string TG, .int .i64 X, .string RS, .slice mo H.length mc, .string B] ∧ Below w.heap.size w x) (show Blk (w.alloc (.cells #[.string M, .string TG, .int .i64 X, .string RS, .slice mo H.length mc, .string B] 24)) _ _ _ ∧ Below _ w (w.alloc (.cells #[.string M, .string TG, .int .i64 X, .string RS, .slice mo H.length mc, .string B] 24)) from ⟨Blk.new w _ _, (Below.refl _ _).alloc (ρ _) _⟩) ?_
 rintro wr ⟨bm, hB⟩
 cases sb with
 | false =>
  go_wp2_with (first | ((with_reducible refine holdLoad 24 rfl ?_); unfold Hold; refine wpList_loadB rfl rfl rfl Tryz.underlying24 (by kernel_rfl) bm (whole _) ?_) | (go_at_call 7; refine (HSM.out _ hB).mono ?_; rintro e w1 ⟨rfl, hC⟩; replace bm := bm.call hC; replace hB := hB.trans (hC.mono hB.size); clear hC) | (go_at_call 8; refine (HAW.out _ (HM.out.below hB)).mono ?_; rintro e w9 ⟨rfl, hC9⟩; replace hB := hB.trans (hC9.mono hB.size); clear hC9))
  go_ret
  exact ⟨rfl, hB⟩
 | true =>
  go_upto_region 4 with (first | ((with_reducible refine holdLoad 24 rfl ?_); unfold Hold; refine wpList_loadB rfl rfl rfl Tryz.underlying24 (by kernel_rfl) bm (whole _) ?_) | (go_at_call 7; refine (HSM.out _ hB).mono ?_; rintro e w1 ⟨rfl, hC⟩; replace bm := bm.call hC; replace hB := hB.trans (hC.mono hB.size); clear hC) | (go_at_call 9; refine (HBS.out _ hB).mono ?_; rintro e w3 ⟨xs, rfl, r1, s1, o1, hC⟩; replace bm := bm.call hC; replace hB := hB.trans (hC.mono hB.size); clear hC) | ((with_reducible refine holdStore 37 rfl ?_); unfold Hold; refine wpList_storeNew (vs := xs) rfl rfl rfl rfl (by rw [s1]; rfl) (by rw [s1]; rfl) o1 ?_; refine wpList_to (fun x => Blk x w.heap.size 24 #[.string M, .string TG, .int .i64 X, .string RS, .slice mo H.length mc, .string B] ∧ Below w.heap.size w x ∧ Blk x w3.heap.size 37 xs ∧ RRqt x (.agg xs) Q) ⟨bm.alloc _, hB.alloc hB.size _, Blk.new _ _ _, r1.below ((Below.refl _ _).alloc (ρ _) _) (ρ _)⟩ ?_; clear bm hB r1; rintro w5 ⟨bm, hB, b1, r1⟩))
  obtain ⟨g1, hg1⟩ : ∃ x, x = w3.heap.size := ⟨_, rfl⟩
  rw [← hg1] at b1 ⊢
  clear hg1
  go_upto_region 5 with (first | ((with_reducible refine holdLoad 24 rfl ?_); unfold Hold; refine wpList_loadB rfl rfl rfl Tryz.underlying24 (by kernel_rfl) bm (whole _) ?_) | (go_at_call 10; refine (HBR.out _ hB).mono ?_; rintro e w4 ⟨ys, rfl, r2, s2, o2, hC⟩; replace bm := bm.call hC; replace b1 := b1.call hC; replace r1 := r1.below hC (ρ _); replace hB := hB.trans (hC.mono hB.size); clear hC) | ((with_reducible refine holdStore 37 rfl ?_); unfold Hold; refine wpList_storeNew (vs := ys) rfl rfl rfl rfl (by rw [s2]; rfl) (by rw [s2]; rfl) o2 ?_; refine wpList_to (fun x => Blk x w.heap.size 24 #[.string M, .string TG, .int .i64 X, .string RS, .slice mo H.length mc, .string B] ∧ Below w.heap.size w x ∧ Blk x w4.heap.size 37 ys ∧ RRqt x (.agg ys) Q ∧ Blk x g1 37 xs ∧ RRqt x (.agg xs) Q) ⟨bm.alloc _, hB.alloc hB.size _, Blk.new _ _ _, r2.below ((Below.refl _ _).alloc (ρ _) _) (ρ _), b1.call ((Below.refl _ _).alloc (ρ _) _), r1.below ((Below.refl _ _).alloc (ρ _) _) (ρ _)⟩ ?_; clear bm hB r2 b1 r1; rintro w6 ⟨bm, hB, b2, r2, b1, r1⟩))
  obtain ⟨g2, hg2⟩ : ∃ x, x = w4.heap.size := ⟨_, rfl⟩
  rw [← hg2] at b2 ⊢
  clear hg2
  go_wp2_with (first | ((with_reducible refine holdLoad 37 rfl ?_); unfold Hold; first | refine wpList_loadB (vs := xs) rfl rfl rfl Tryz.underlying37 (by rw [s1]; rfl) b1 (whole _) ?_ | refine wpList_loadB (vs := ys) rfl rfl rfl Tryz.underlying37 (by rw [s2]; rfl) b2 (whole _) ?_) | (go_at_call 11; refine (HSM2.out _ _ _ r1 r2).mono ?_; rintro e wa ⟨rfl, hC⟩; replace hB := hB.trans (hC.mono hB.size)) | (go_at_call 8; refine (HAW.out _ (HM.out.below hB)).mono ?_; rintro e w9 ⟨rfl, hC9⟩; replace hB := hB.trans (hC9.mono hB.size); clear hC9))
  all_goals go_ret
  all_goals exact ⟨rfl, hB⟩
end Go.Proofs.YtgkilllbkljibaaGreatDoor
