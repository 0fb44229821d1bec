/-
  DialogBegins: the walk.
-/
import Derived.Test.YtipdiddjhimdcaaGreatDoorB19
import Derived.Test.YtipdiddjhimdcaaGreatDoorB20
import Derived.Test.YtipdiddjhimdcaaGreatDoorRb
namespace Go.Proofs.YtipdiddjhimdcaaGreatDoor
set_option linter.unusedSimpArgs false
set_option linter.unusedVariables false
open Go.RowKit Go.Sort


theorem RqBd.rqB2 {r : Rq} (h : RqBd 1048576 r) : RqB r := by
  obtain ⟨⟨a1, a2, a3, a4, a5, a6, a7, a8⟩, ⟨b1, b2, b3, b4, b5, b6, b7, b8⟩, hc, h4, h5, h6, h7, _⟩ := h
  refine ⟨⟨by omega, by omega, by omega, fun p hp => by have := a3 p hp; omega, fun p hp => by have := a4 p hp; omega, fun p hp => by have := a5 p hp; omega, by omega, by omega, by omega⟩,
    ⟨by omega, by omega, by omega, fun p hp => by have := b3 p hp; omega, fun p hp => by have := b4 p hp; omega, fun p hp => by have := b5 p hp; omega, by omega, by omega, by omega⟩, fun c hc' => ?_, by omega, by omega, by omega⟩
  have := (hc c hc').2.2.2.2.2
  omega
set_option maxRecDepth 100000 in
set_option maxHeartbeats 12800000 in
theorem dialogBegins_walk (rs : Array Value) (R : Rq) (bR : RqBd 1048576 R) (T : ByteArray) (hT : T.size ≤ 1048576) (w : World) (hm : Ml w) (hR : RReq w (.agg rs) R) :
    Calls Tryz.prog 4 #[.agg rs, .string T] w fun e w' => e = .returned (.bool true) ∧ Below w.heap.size w w' := by
  have HM := Lib.hid hm
  have HAW := Lib.hid (fun wx hx => awake18_c wx hx)
  obtain ⟨rs', er, s38, _, _, _, _, _, hR⟩ := hR.row
  injection er with er
  subst er
  have HSM := Lib.hid (fun (wx : World) (h : Below w.heap.size w wx) => small_c rs R wx (hR.below h (Nat.le_refl _)) bR.2.2.2.1 bR.2.2.2.2.1)
  have hqb := bR.rqB2
  have HBG := Lib.hid (fun (wx : World) (h : Below w.heap.size w wx) => begin_c rs T R wx (hm.below h) (hR.below h (Nat.le_refl _)) hqb (by omega))
  have HBR := Lib.hid (fun (wx : World) (h : Below w.heap.size w wx) => beginR_c rs T R wx (hm.below h) (hR.below h (Nat.le_refl _)) hqb (by omega))
  obtain ⟨TD, hTD⟩ : ∃ x, x = beginS R (us T) := ⟨_, rfl⟩
  rw [← hTD] at HBG HBR
  obtain ⟨td, tc⟩ := TD
  dsimp only at HBG HBR
  obtain ⟨SB, hSB⟩ : ∃ x, x = smallR R := ⟨_, rfl⟩
  rw [← hSB] at HSM
  have hB0 : Below w.heap.size w (w.alloc (.cells rs 32)) := (Below.refl _ _).alloc (Nat.le_refl _) _
  have br : Blk (w.alloc (.cells rs 32)) w.heap.size 32 rs := Blk.new w 32 rs
  obtain ⟨w0, hw0⟩ : ∃ w0, w0 = (w.alloc (.cells rs 32)) := ⟨_, rfl⟩
  rw [← hw0] at hB0 br
  have HW0 := Lib.hid hw0
  clear hw0 hR hm hTD hSB bR hqb hT
  go_enter Tryz.func4, Tryz.ntmps4
  go_upto_region 1 with fail
  rw [← HW0.out]
  clear HW0
  go_wp2_with (with_reducible refine holdLoad 32 rfl ?_)
  unfold Hold
  refine wpList_loadB (vs := rs) rfl rfl rfl Tryz.underlying32 (by rw [s38]; rfl) br (whole _) ?_
  cases SB with
  | false =>
    go_wp2_with (first | (go_at_call 11; refine (HSM.out _ hB0).mono ?_; rintro e w1 ⟨rfl, hC⟩; replace hB0 := hB0.trans (hC.mono hB0.size)) | (go_at_call 12; refine (HAW.out _ (HM.out.below hB0)).mono ?_; rintro e wz ⟨rfl, hCz⟩))
    go_ret
    exact ⟨rfl, hB0.trans (hCz.mono hB0.size)⟩
  | true =>
    go_wp2_with (first | (go_at_call 11; refine (HSM.out _ hB0).mono ?_; rintro e w1 ⟨rfl, hC⟩) | (with_reducible refine holdLoad 32 rfl ?_))
    unfold Hold
    replace hB0 := hB0.trans (hC.mono hB0.size)
    replace br := br.call hC
    clear hC HSM
    refine wpList_loadB (vs := rs) rfl rfl rfl Tryz.underlying32 (by rw [s38]; rfl) br (whole _) ?_
    go_wp2_with (first | (go_at_call 10; refine (HBG.out _ hB0).mono ?_; rintro e y1 ⟨xs, rfl, hxD, hC⟩) | (with_reducible refine holdStore 34 rfl ?_))
    unfold Hold
    obtain ⟨t', et, t26, hxone, _, _, hxD⟩ := hxD.row
    injection et with et
    subst et
    refine wpList_storeNew (vs := xs) rfl rfl rfl rfl (by rw [t26]; rfl) (by rw [t26]; rfl) hxone ?_
    replace hB0 := (hB0.trans (hC.mono hB0.size)).alloc (hB0.trans (hC.mono hB0.size)).size (.cells xs 34)
    replace br := (br.call hC).alloc (.cells xs 34)
    have bgx := Blk.new y1 34 xs
    replace hxD := hxD.below ((Below.refl y1.heap.size y1).alloc (Nat.le_refl _) (.cells xs 34)) (Nat.le_refl _)
    obtain ⟨gx, hgx⟩ : ∃ zz, zz = y1.heap.size := ⟨_, rfl⟩
    obtain ⟨wgx, hwx⟩ : ∃ zz, zz = y1.alloc (.cells xs 34) := ⟨_, rfl⟩
    rw [← hwx] at hB0 br bgx  hxD
    rw [← hwx]
    rw [← hgx] at bgx
    rw [← hgx]
    clear hwx hgx hC hxone
    go_wp2_with (with_reducible refine holdLoad 32 rfl ?_)
    unfold Hold
    refine wpList_loadB (vs := rs) rfl rfl rfl Tryz.underlying32 (by rw [s38]; rfl) br (whole _) ?_
    go_wp2_with (first | (go_at_call 21; refine (HBR.out _ hB0).mono ?_; rintro e y2 ⟨ys, rfl, hyD, hC⟩) | (with_reducible refine holdStore 34 rfl ?_))
    unfold Hold
    obtain ⟨t', et, u26, hyone, _, _, hyD⟩ := hyD.row
    injection et with et
    subst et
    refine wpList_storeNew (vs := ys) rfl rfl rfl rfl (by rw [u26]; rfl) (by rw [u26]; rfl) hyone ?_
    replace hB0 := (hB0.trans (hC.mono hB0.size)).alloc (hB0.trans (hC.mono hB0.size)).size (.cells ys 34)
    replace br := (br.call hC).alloc (.cells ys 34)
    replace bgx := (bgx.call hC).alloc (.cells ys 34)
    have bgy := Blk.new y2 34 ys
    replace hxD := (hxD.below hC (Nat.le_refl _)).below ((Below.refl y2.heap.size y2).alloc (Nat.le_refl _) (.cells ys 34)) (Nat.le_refl _)
    replace hyD := hyD.below ((Below.refl y2.heap.size y2).alloc (Nat.le_refl _) (.cells ys 34)) (Nat.le_refl _)
    obtain ⟨gy, hgx⟩ : ∃ zz, zz = y2.heap.size := ⟨_, rfl⟩
    obtain ⟨wgy, hwx⟩ : ∃ zz, zz = y2.alloc (.cells ys 34) := ⟨_, rfl⟩
    rw [← hwx] at hB0 br bgx bgy hxD hyD
    rw [← hwx]
    rw [← hgx] at bgy
    rw [← hgx]
    clear hwx hgx hC hyone
    go_wp2_with (with_reducible refine holdLoad 34 rfl ?_)
    unfold Hold
    refine wpList_loadB (vs := xs) rfl rfl rfl Tryz.underlying34 (by rw [t26]; rfl) bgx (whole _) ?_
    go_wp2_with (with_reducible refine holdLoad 34 rfl ?_)
    unfold Hold
    refine wpList_loadB (vs := ys) rfl rfl rfl Tryz.underlying34 (by rw [u26]; rfl) bgy (whole _) ?_
    have HSA := Lib.hid (sameD_c (.agg xs) (.agg ys) td _ hxD hyD)
    clear hxD hyD
    go_wp2_with (first | (go_at_call 14; refine HSA.out.mono ?_; rintro e z1 ⟨rfl, hC⟩; replace hB0 := hB0.trans (hC.mono hB0.size)) | (go_at_call 12; refine (HAW.out _ (HM.out.below hB0)).mono ?_; rintro e wz ⟨rfl, hCz⟩))
    go_ret
    exact ⟨rfl, hB0.trans (hCz.mono hB0.size)⟩

end Go.Proofs.YtipdiddjhimdcaaGreatDoor
