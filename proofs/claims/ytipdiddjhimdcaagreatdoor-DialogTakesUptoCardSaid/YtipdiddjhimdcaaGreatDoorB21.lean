/-
  Packed: XTks.
-/
import Derived.Test.YtipdiddjhimdcaaGreatDoorB19
import Derived.Test.YtipdiddjhimdcaaGreatDoorB20
namespace Go.Proofs.YtipdiddjhimdcaaGreatDoor
set_option linter.unusedSimpArgs false
set_option linter.unusedVariables false
open Go.RowKit Go.Sort


theorem run_loadB {P : Program} {o : Oper} {a : Act} {w : World} {g : Nat} {t T : TypeId} {fs : Array Field} {vs : Array Value} {p : Operand}
    (ho : o.op = .load T p) (hp : a.eval p = .pointer (some ⟨g, 0, none⟩)) (hA : P.underlying T = some (.struct fs)) (hC : (P.info? T).map (·.size) = some vs.size)
    (hb : Blk w g t vs) : (execOp a.eval o).run P w = .ok (.value (.agg vs)) w := by
  have hl := loadVar_blk hA hC hb
  simp [execOp, ho, hp, Instr.loadAt, Instr.sureAddr, hl, Result.andThen]

theorem AdrBdL.b {B : Nat} {a : Adr} (h : AdrBdL B a) (hB : B ≤ 4294967280) : ∀ p ∈ a.ps, p.name.length ≤ 4294967280 := fun p hp => by have := (h.2.2.2.2.1 p hp).1; omega
theorem RqBd.b3 {r : Rq} (h : RqBd 1048576 r) : ∀ c ∈ r.contact, c.uri.ps.length ≤ 1099511627776 ∧ c.uri.hs.length ≤ 1099511627776 := fun c hc => by
  have := (h.2.2.1 c hc).2.2.2.2.2
  omega
set_option maxRecDepth 100000 in
set_option maxHeartbeats 12800000 in
theorem dialogTakes_walk (vs : Array Value) (D : Dlg) (bD : DlgBd 1048576 D) (rs : Array Value) (R : Rq) (bR : RqBd 1048576 R) (w : World) (hm : Ml w) (hD : RDlg w (.agg vs) D) (hR : RReq w (.agg rs) R) :
    Calls Tryz.prog 5 #[.agg vs, .agg rs] w fun e w' => e = .returned (.bool true) ∧ Below w.heap.size w w' := by
  have HM := Lib.hid hm
  have HAW := Lib.hid (fun wx hx => awake18_c wx hx)
  obtain ⟨vs', ev, d26, _, _, _, hD⟩ := hD.row
  injection ev with ev
  subst ev
  obtain ⟨rs', er, s38, _, _, _, _, _, hR⟩ := hR.row
  injection er with er
  subst er
  have HDw := Lib.hid hD
  have HRw := Lib.hid hR
  have HSM := Lib.hid (fun (wx : World) (h : Below w.heap.size w wx) => small_c rs R wx (hR.below h (Nat.le_refl _)) bR.2.2.2.1 bR.2.2.2.2.1)
  have hb3 := bR.b3
  have hb1 := bD.1.b (by decide)
  have hb2 := bD.2.1.b (by decide)
  have HTK := Lib.hid (fun (wx : World) (h : Below w.heap.size w wx) => take_c vs (.agg rs) D R wx (hD.below h (Nat.le_refl _)) (hR.below h (Nat.le_refl _)) hb1 hb2 hb3)
  have HTR := Lib.hid (fun (wx : World) (h : Below w.heap.size w wx) => takeR_c vs (.agg rs) D R wx (hD.below h (Nat.le_refl _)) (hR.below h (Nat.le_refl _)) hb1 hb2 hb3)
  have HMT := Lib.hid (fun (wx : World) (h : Below w.heap.size w wx) => match_c (.agg vs) (.agg rs) D R wx (hD.below h (Nat.le_refl _)) (hR.below h (Nat.le_refl _)) hb1 hb2)
  have HMR := Lib.hid (fun (wx : World) (h : Below w.heap.size w wx) => matchR_c (.agg vs) (.agg rs) D R wx (hD.below h (Nat.le_refl _)) (hR.below h (Nat.le_refl _)) hb1 hb2)
  obtain ⟨TD, hTD⟩ : ∃ x, x = takeS D R := ⟨_, rfl⟩
  rw [← hTD] at HTK HTR
  obtain ⟨td, tc⟩ := TD
  dsimp only at HTK HTR
  obtain ⟨MB, hMB⟩ : ∃ x, x = matchD D R := ⟨_, rfl⟩
  rw [← hMB] at HMT HMR
  obtain ⟨SB, hSB⟩ : ∃ x, x = smallR R := ⟨_, rfl⟩
  rw [← hSB] at HSM
  have hB0 : Below w.heap.size w ((w.alloc (.cells vs 34)).alloc (.cells rs 32)) := ((Below.refl _ _).alloc (Nat.le_refl _) _).alloc (by rw [World.size_alloc]; omega) _
  have bd : Blk ((w.alloc (.cells vs 34)).alloc (.cells rs 32)) w.heap.size 34 vs := (Blk.new w 34 vs).alloc _
  have br : Blk ((w.alloc (.cells vs 34)).alloc (.cells rs 32)) (w.heap.size + 1) 32 rs := by
    have := Blk.new (w.alloc (.cells vs 34)) 32 rs
    rwa [World.size_alloc] at this
  obtain ⟨w0, hw0⟩ : ∃ w0, w0 = ((w.alloc (.cells vs 34)).alloc (.cells rs 32)) := ⟨_, rfl⟩
  rw [← hw0] at hB0 bd br
  have HW0 := Lib.hid hw0
  clear hw0 hD hR hm hTD hMB hSB hb1 hb2 hb3 bD bR
  go_enter Tryz.func5, Tryz.ntmps5
  go_upto_region 1 with fail
  rw [← HW0.out]
  clear HW0
  go_wp2_with (with_reducible refine holdLoad 32 rfl ?_)
  unfold Hold
  refine wpList_loadB (vs := rs) rfl rfl rfl Tryz.underlying32 (by rw [s38]; rfl) br (whole _) ?_
  cases SB with
  | false =>
    go_wp2_with (first | (go_at_call 11; refine (HSM.out _ hB0).mono ?_; rintro e w1 ⟨rfl, hC⟩; replace hB0 := hB0.trans (hC.mono hB0.size)) | (go_at_call 12; refine (HAW.out _ (HM.out.below hB0)).mono ?_; rintro e wz ⟨rfl, hCz⟩))
    go_ret
    exact ⟨rfl, hB0.trans (hCz.mono hB0.size)⟩
  | true =>
    go_wp2_with (first | (go_at_call 11; refine (HSM.out _ hB0).mono ?_; rintro e w1 ⟨rfl, hC⟩) | (with_reducible refine holdLoad 34 rfl ?_))
    unfold Hold
    replace hB0 := hB0.trans (hC.mono hB0.size)
    replace bd := bd.call hC
    replace br := br.call hC
    clear hC HSM
    refine wpList_loadB (vs := vs) rfl rfl rfl Tryz.underlying34 (by rw [d26]; rfl) bd (whole _) ?_
    go_wp2_with (with_reducible refine holdLoad 32 rfl ?_)
    unfold Hold
    refine wpList_loadB (vs := rs) rfl rfl rfl Tryz.underlying32 (by rw [s38]; rfl) br (whole _) ?_
    go_wp2_with (first | (go_at_call 22; refine (HTK.out _ hB0).mono ?_; rintro e y1 ⟨xs, rfl, hT, _, hC⟩) | (with_reducible refine holdStore 34 rfl ?_))
    unfold Hold
    obtain ⟨t', et, t26, tone, _, _, hT⟩ := hT.row
    injection et with et
    subst et
    refine wpList_storeNew (vs := xs) rfl rfl rfl rfl (by rw [t26]; rfl) (by rw [t26]; rfl) tone ?_
    replace hB0 := (hB0.trans (hC.mono hB0.size)).alloc (hB0.trans (hC.mono hB0.size)).size (.cells xs 34)
    replace bd := (bd.call hC).alloc (.cells xs 34)
    replace br := (br.call hC).alloc (.cells xs 34)
    have bx := Blk.new y1 34 xs
    replace hT := hT.below ((Below.refl y1.heap.size y1).alloc (Nat.le_refl _) (.cells xs 34)) (Nat.le_refl _)
    obtain ⟨gx, hgx⟩ : ∃ zz, zz = y1.heap.size := ⟨_, rfl⟩
    obtain ⟨w3, hwx⟩ : ∃ zz, zz = y1.alloc (.cells xs 34) := ⟨_, rfl⟩
    rw [← hwx] at hB0 bd br bx hT
    rw [← hwx]
    rw [← hgx] at bx
    rw [← hgx]
    clear hwx hgx hC HTK tone
    go_wp2_with (with_reducible refine holdLoad 34 rfl ?_)
    unfold Hold
    refine wpList_loadB (vs := vs) rfl rfl rfl Tryz.underlying34 (by rw [d26]; rfl) bd (whole _) ?_
    go_wp2_with (with_reducible refine holdLoad 32 rfl ?_)
    unfold Hold
    refine wpList_loadB (vs := rs) rfl rfl rfl Tryz.underlying32 (by rw [s38]; rfl) br (whole _) ?_
    go_wp2_with (first | (go_at_call 23; refine (HTR.out _ hB0).mono ?_; rintro e y2 ⟨ys, rfl, hT2, hC⟩) | (with_reducible refine holdStore 34 rfl ?_))
    unfold Hold
    obtain ⟨t2', et2, u26, uone, _, _, hT2⟩ := hT2.row
    injection et2 with et2
    subst et2
    refine wpList_storeNew (vs := ys) rfl rfl rfl rfl (by rw [u26]; rfl) (by rw [u26]; rfl) uone ?_
    replace hB0 := (hB0.trans (hC.mono hB0.size)).alloc (hB0.trans (hC.mono hB0.size)).size (.cells ys 34)
    replace bd := (bd.call hC).alloc (.cells ys 34)
    replace br := (br.call hC).alloc (.cells ys 34)
    replace bx := (bx.call hC).alloc (.cells ys 34)
    have by_ := Blk.new y2 34 ys
    replace hT := (hT.below hC (Nat.le_refl _)).below ((Below.refl y2.heap.size y2).alloc (Nat.le_refl _) (.cells ys 34)) (Nat.le_refl _)
    replace hT2 := hT2.below ((Below.refl y2.heap.size y2).alloc (Nat.le_refl _) (.cells ys 34)) (Nat.le_refl _)
    obtain ⟨gy, hgx⟩ : ∃ zz, zz = y2.heap.size := ⟨_, rfl⟩
    obtain ⟨w4, hwx⟩ : ∃ zz, zz = y2.alloc (.cells ys 34) := ⟨_, rfl⟩
    rw [← hwx] at hB0 bd br bx by_ hT hT2
    rw [← hwx]
    rw [← hgx] at by_
    rw [← hgx]
    clear hwx hgx hC HTR uone
    have HS := Lib.hid (fun (wx : World) (h : Below w4.heap.size w4 wx) => (show Blk wx gx 34 xs ∧ Blk wx gy 34 ys ∧ Blk wx w.heap.size 34 vs ∧ Blk wx (w.heap.size + 1) 32 rs from ⟨bx.call h, by_.call h, bd.call h, br.call h⟩))
    have HSA := Lib.hid (fun (wx : World) (h : Below w4.heap.size w4 wx) => sameD_c (.agg xs) (.agg ys) td wx (hT.below h (Nat.le_refl _)) (hT2.below h (Nat.le_refl _)))
    have HB := Lib.hid hB0
    have hZ : Below w4.heap.size w4 w4 := Below.refl _ _
    clear hT hT2 bx by_ bd br
    go_upto_region 5 with fail
    refine wp_region_held_drew (S := fun wx => Blk wx gx 34 xs ∧ Blk wx gy 34 ys ∧ Blk wx w.heap.size 34 vs ∧ Blk wx (w.heap.size + 1) 32 rs) (by kernel_rfl) (HS.out _ (zDrew hZ)) (fun hHeld => ?_)
    refine wpAnyH_take (i := 0) (v := .agg xs) rfl (by kernel_rfl) (by kernel_rfl) (by kernel_rfl) (fun _ _ _ h => h) (Or.inl ⟨by rfl, ?_⟩) (by assumption) ?_
    focus (intro wx hSw; refine run_loadB rfl ?_ Tryz.underlying34 ?_ hSw.1; (focus rfl); (focus (rw [t26]; rfl)))
    try simp only [Act.put, List.getElem_toArray, List.getElem_cons_zero, List.getElem_cons_succ, List.setIfInBounds_toArray, List.set_cons_zero, List.set_cons_succ]
    refine wpAnyH_take (i := 1) (v := .agg ys) rfl (by kernel_rfl) (by kernel_rfl) (by kernel_rfl) (fun _ _ _ h => h) (Or.inl ⟨by rfl, ?_⟩) (by assumption) ?_
    focus (intro wx hSw; refine run_loadB rfl ?_ Tryz.underlying34 ?_ hSw.2.1; (focus rfl); (focus (rw [u26]; rfl)))
    try simp only [Act.put, List.getElem_toArray, List.getElem_cons_zero, List.getElem_cons_succ, List.setIfInBounds_toArray, List.set_cons_zero, List.set_cons_succ]
    refine wpAnyH_ready (rs := [2]) (by kernel_rfl) (by simp) ?_
    refine AllReadyH.cons rfl (fun K hK => ?_) ?_
    ·
      go_simp
      go_at_call 14
      refine (HSA.out _ (by first | exact hZ | exact zDrew hZ)).mono ?_
      rintro e z1 ⟨rfl, hC⟩
      have hZ' : Below w4.heap.size w4 z1 := by first | exact zUp hZ hZ.size hC | exact zUp (zDrew hZ) (zDrew hZ).size hC
      clear hZ
      have hZ := hZ'
      clear hZ' hC
      (try dsimp only)
      refine hK.out _ _ ?_ (fun hHeld => ?_)
      focus ((try dsimp only); first | exact HS.out _ hZ | exact HS.out _ (zDrew hZ))
      clear hK K
      try simp only [Act.put, List.getElem_toArray, List.getElem_cons_zero, List.getElem_cons_succ, List.setIfInBounds_toArray, List.set_cons_zero, List.set_cons_succ]
      refine wpAnyH_take (i := 3) (v := ?_) rfl (by kernel_rfl) (by kernel_rfl) (by kernel_rfl) (fun _ _ _ h => h) (Or.inl ⟨by rfl, ?_⟩) (by assumption) ?_
      rotate_left
      focus (intro _ hSw; (try dsimp only at hSw); go_simp; try (with_reducible rfl))
      try simp only [Act.put, List.getElem_toArray, List.getElem_cons_zero, List.getElem_cons_succ, List.setIfInBounds_toArray, List.set_cons_zero, List.set_cons_succ]
      refine wpAnyH_take (i := 4) (v := ?_) rfl (by kernel_rfl) (by kernel_rfl) (by kernel_rfl) (fun _ _ _ h => h) (Or.inl ⟨by rfl, ?_⟩) (by assumption) ?_
      rotate_left
      focus (intro _ hSw; (try dsimp only at hSw); go_simp; try (with_reducible rfl))
      try simp only [Act.put, List.getElem_toArray, List.getElem_cons_zero, List.getElem_cons_succ, List.setIfInBounds_toArray, List.set_cons_zero, List.set_cons_succ]
      refine wpAnyH_take (i := 5) (v := ?_) rfl (by kernel_rfl) (by kernel_rfl) (by kernel_rfl) (fun _ _ _ h => h) (Or.inl ⟨by rfl, ?_⟩) (by assumption) ?_
      rotate_left
      focus (intro _ hSw; (try dsimp only at hSw); go_simp; try (with_reducible rfl))
      try simp only [Act.put, List.getElem_toArray, List.getElem_cons_zero, List.getElem_cons_succ, List.setIfInBounds_toArray, List.set_cons_zero, List.set_cons_succ]
      refine wpAnyH_take (i := 6) (v := ?_) rfl (by kernel_rfl) (by kernel_rfl) (by kernel_rfl) (fun _ _ _ h => h) (Or.inl ⟨by rfl, ?_⟩) (by assumption) ?_
      rotate_left
      focus (intro _ hSw; (try dsimp only at hSw); go_simp; try (with_reducible rfl))
      try simp only [Act.put, List.getElem_toArray, List.getElem_cons_zero, List.getElem_cons_succ, List.setIfInBounds_toArray, List.set_cons_zero, List.set_cons_succ]
      try simp only [beq_self_eq_true, decide_true, Bool.and_true, Bool.true_and, Bool.and_self]
      refine wpAnyH_take (i := 7) (v := ?_) rfl (by kernel_rfl) (by kernel_rfl) (by kernel_rfl) (fun _ _ _ h => h) (Or.inl ⟨by rfl, ?_⟩) (by assumption) ?_
      rotate_left
      focus (intro _ hSw; (try dsimp only at hSw); go_simp; try (with_reducible rfl))
      try simp only [Act.put, List.getElem_toArray, List.getElem_cons_zero, List.getElem_cons_succ, List.setIfInBounds_toArray, List.set_cons_zero, List.set_cons_succ]
      try simp only [beq_self_eq_true, decide_true, Bool.and_true, Bool.true_and, Bool.and_self]
      refine wpAnyH_take (i := 8) (v := ?_) rfl (by kernel_rfl) (by kernel_rfl) (by kernel_rfl) (fun _ _ _ h => h) (Or.inl ⟨by rfl, ?_⟩) (by assumption) ?_
      rotate_left
      focus (intro _ hSw; (try dsimp only at hSw); go_simp; try (with_reducible rfl))
      try simp only [Act.put, List.getElem_toArray, List.getElem_cons_zero, List.getElem_cons_succ, List.setIfInBounds_toArray, List.set_cons_zero, List.set_cons_succ]
      try simp only [beq_self_eq_true, decide_true, Bool.and_true, Bool.true_and, Bool.and_self]
      refine wpAnyH_take (i := 9) (v := .agg vs) rfl (by kernel_rfl) (by kernel_rfl) (by kernel_rfl) (fun _ _ _ h => h) (Or.inl ⟨by rfl, ?_⟩) (by assumption) ?_
      focus (intro wx hSw; refine run_loadB rfl ?_ Tryz.underlying34 ?_ hSw.2.2.1; (focus rfl); (focus (rw [d26]; rfl)))
      try simp only [Act.put, List.getElem_toArray, List.getElem_cons_zero, List.getElem_cons_succ, List.setIfInBounds_toArray, List.set_cons_zero, List.set_cons_succ]
      refine wpAnyH_take (i := 10) (v := .agg rs) rfl (by kernel_rfl) (by kernel_rfl) (by kernel_rfl) (fun _ _ _ h => h) (Or.inl ⟨by rfl, ?_⟩) (by assumption) ?_
      focus (intro wx hSw; refine run_loadB rfl ?_ Tryz.underlying32 ?_ hSw.2.2.2; (focus rfl); (focus (rw [s38]; rfl)))
      try simp only [Act.put, List.getElem_toArray, List.getElem_cons_zero, List.getElem_cons_succ, List.setIfInBounds_toArray, List.set_cons_zero, List.set_cons_succ]
      refine wpAnyH_take (i := 12) (v := .agg vs) rfl (by kernel_rfl) (by kernel_rfl) (by kernel_rfl) (fun _ _ _ h => h) (Or.inl ⟨by rfl, ?_⟩) (by assumption) ?_
      focus (intro wx hSw; refine run_loadB rfl ?_ Tryz.underlying34 ?_ hSw.2.2.1; (focus rfl); (focus (rw [d26]; rfl)))
      try simp only [Act.put, List.getElem_toArray, List.getElem_cons_zero, List.getElem_cons_succ, List.setIfInBounds_toArray, List.set_cons_zero, List.set_cons_succ]
      refine wpAnyH_take (i := 13) (v := .agg rs) rfl (by kernel_rfl) (by kernel_rfl) (by kernel_rfl) (fun _ _ _ h => h) (Or.inl ⟨by rfl, ?_⟩) (by assumption) ?_
      focus (intro wx hSw; refine run_loadB rfl ?_ Tryz.underlying32 ?_ hSw.2.2.2; (focus rfl); (focus (rw [s38]; rfl)))
      try simp only [Act.put, List.getElem_toArray, List.getElem_cons_zero, List.getElem_cons_succ, List.setIfInBounds_toArray, List.set_cons_zero, List.set_cons_succ]
      refine wpAnyH_ready (rs := [11]) (by kernel_rfl) (by simp) ?_
      refine AllReadyH.cons rfl (fun K hK => ?_) ?_
      ·
        go_simp
        go_at_call 24
        refine (HMT.out _ (by first | exact HB.out.trans (hZ.mono HB.out.size) | exact HB.out.trans ((zDrew hZ).mono HB.out.size))).mono ?_
        rintro e z2 ⟨rfl, hC⟩
        have hZ' : Below w4.heap.size w4 z2 := by first | exact zUp hZ hZ.size hC | exact zUp (zDrew hZ) (zDrew hZ).size hC
        clear hZ
        have hZ := hZ'
        clear hZ' hC
        (try dsimp only)
        refine hK.out _ _ ?_ (fun hHeld => ?_)
        focus ((try dsimp only); first | exact HS.out _ hZ | exact HS.out _ (zDrew hZ))
        clear hK K
        try simp only [Act.put, List.getElem_toArray, List.getElem_cons_zero, List.getElem_cons_succ, List.setIfInBounds_toArray, List.set_cons_zero, List.set_cons_succ]
        refine wpAnyH_ready (rs := [14]) (by kernel_rfl) (by simp) ?_
        refine AllReadyH.cons rfl (fun K hK => ?_) ?_
        ·
          go_simp
          go_at_call 25
          refine (HMR.out _ (by first | exact HB.out.trans (hZ.mono HB.out.size) | exact HB.out.trans ((zDrew hZ).mono HB.out.size))).mono ?_
          rintro e z3 ⟨rfl, hC⟩
          have hZ' : Below w4.heap.size w4 z3 := by first | exact zUp hZ hZ.size hC | exact zUp (zDrew hZ) (zDrew hZ).size hC
          clear hZ
          have hZ := hZ'
          clear hZ' hC
          (try dsimp only)
          refine hK.out _ _ ?_ (fun hHeld => ?_)
          focus ((try dsimp only); first | exact HS.out _ hZ | exact HS.out _ (zDrew hZ))
          clear hK K
          try simp only [Act.put, List.getElem_toArray, List.getElem_cons_zero, List.getElem_cons_succ, List.setIfInBounds_toArray, List.set_cons_zero, List.set_cons_succ]
          refine wpAnyH_take (i := 15) (v := ?_) rfl (by kernel_rfl) (by kernel_rfl) (by kernel_rfl) (fun _ _ _ h => h) (Or.inl ⟨by rfl, ?_⟩) (by assumption) ?_
          rotate_left
          focus (intro _ hSw; (try dsimp only at hSw); go_simp; try (with_reducible rfl))
          try simp only [Act.put, List.getElem_toArray, List.getElem_cons_zero, List.getElem_cons_succ, List.setIfInBounds_toArray, List.set_cons_zero, List.set_cons_succ]
          try simp only [beq_self_eq_true, decide_true, Bool.and_true, Bool.true_and, Bool.and_self]
          refine wpAnyH_take (i := 16) (v := ?_) rfl (by kernel_rfl) (by kernel_rfl) (by kernel_rfl) (fun _ _ _ h => h) (Or.inl ⟨by rfl, ?_⟩) (by assumption) ?_
          rotate_left
          focus (intro _ hSw; (try dsimp only at hSw); go_simp; try (with_reducible rfl))
          try simp only [Act.put, List.getElem_toArray, List.getElem_cons_zero, List.getElem_cons_succ, List.setIfInBounds_toArray, List.set_cons_zero, List.set_cons_succ]
          try simp only [beq_self_eq_true, decide_true, Bool.and_true, Bool.true_and, Bool.and_self]
          refine wpAnyH_take (i := 17) (v := ?_) rfl (by kernel_rfl) (by kernel_rfl) (by kernel_rfl) (fun _ _ _ h => h) (Or.inl ⟨by rfl, ?_⟩) (by assumption) ?_
          rotate_left
          focus (intro _ hSw; (try dsimp only at hSw); go_simp; try (with_reducible rfl))
          try simp only [Act.put, List.getElem_toArray, List.getElem_cons_zero, List.getElem_cons_succ, List.setIfInBounds_toArray, List.set_cons_zero, List.set_cons_succ]
          try simp only [beq_self_eq_true, decide_true, Bool.and_true, Bool.true_and, Bool.and_self]
          refine wpAnyH_ready (rs := [18]) (by kernel_rfl) (by simp) ?_
          refine AllReadyH.cons rfl (fun K hK => ?_) ?_
          ·
            go_simp
            go_at_call 12
            refine (HAW.out _ (HM.out.below (by first | exact HB.out.trans (hZ.mono HB.out.size) | exact HB.out.trans ((zDrew hZ).mono HB.out.size)))).mono ?_
            rintro e z4 ⟨rfl, hC⟩
            have hZ' : Below w4.heap.size w4 z4 := by first | exact zUp hZ hZ.size hC | exact zUp (zDrew hZ) (zDrew hZ).size hC
            clear hZ
            have hZ := hZ'
            clear hZ' hC
            (try dsimp only)
            refine hK.out _ _ ?_ (fun hHeld => ?_)
            focus ((try dsimp only); first | exact HS.out _ hZ | exact HS.out _ (zDrew hZ))
            clear hK K
            try simp only [Act.put, List.getElem_toArray, List.getElem_cons_zero, List.getElem_cons_succ, List.setIfInBounds_toArray, List.set_cons_zero, List.set_cons_succ]
            refine wpAnyH_take (i := 19) (v := ?_) rfl (by kernel_rfl) (by kernel_rfl) (by kernel_rfl) (fun _ _ _ h => h) (Or.inl ⟨by rfl, ?_⟩) (by assumption) ?_
            rotate_left
            focus (intro _ hSw; (try dsimp only at hSw); go_simp; try (with_reducible rfl))
            try simp only [Act.put, List.getElem_toArray, List.getElem_cons_zero, List.getElem_cons_succ, List.setIfInBounds_toArray, List.set_cons_zero, List.set_cons_succ]
            try simp only [beq_self_eq_true, decide_true, Bool.and_true, Bool.true_and, Bool.and_self]
            refine wpAnyH_take (i := 20) (v := ?_) rfl (by kernel_rfl) (by kernel_rfl) (by kernel_rfl) (fun _ _ _ h => h) (Or.inl ⟨by rfl, ?_⟩) (by assumption) ?_
            rotate_left
            focus (intro _ hSw; (try dsimp only at hSw); go_simp; try (with_reducible rfl))
            try simp only [Act.put, List.getElem_toArray, List.getElem_cons_zero, List.getElem_cons_succ, List.setIfInBounds_toArray, List.set_cons_zero, List.set_cons_succ]
            refine wpAnyH_done (by kernel_rfl) ?_ _
            go_wp2
            go_ret
            exact ⟨rfl, HB.out.trans (hZ.mono HB.out.size)⟩
          exact AllReadyH.nil
        exact AllReadyH.nil
      exact AllReadyH.nil
    exact AllReadyH.nil

end Go.Proofs.YtipdiddjhimdcaaGreatDoor

