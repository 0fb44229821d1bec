/- Contracts of Go functions, and plain laws. No condition but those told. -/
import Derived.Test.YtipdiddjhimdcaaGreatDoorTk
set_option linter.unusedSimpArgs false
set_option linter.unusedVariables false
set_option maxRecDepth 100000
namespace Go.Proofs.YtipdiddjhimdcaaGreatDoor
open Go.RowKit Go.Sort
section
variable {P : Program} {ops : Array Oper} {rest : List Oper} {o : Oper} {a : Act} {Q : Exit → Act → World → Prop} {w : World} {t : TypeId}
theorem wpList_loadG {g : Nat} {T : TypeId} {fs : Array Field} {vs : Array Value} {p : Operand}
  (hw : Region.wanted o (yielded ops a.tmps) = true) (ho : o.op = .load T p) (hp : a.eval p = .pointer (some ⟨g, 0, none⟩)) (hA : P.underlying T = some (.struct fs)) (hC : (P.info? T).map (·.size) = some vs.size)
  (hb : Blk w g t vs) (h : wpList P ops Q rest (a.put o.dst (.agg vs)) w) : wpList P ops Q (o :: rest) a w := by
 refine wpList_step fun K hK => ?_
 rw [if_pos hw]
 have hl := loadVar_blk hA hC hb
 have hex : (execOp a.eval o).run P w = .ok (.value (.agg vs)) w := by
  simp [execOp, ho, hp, Instr.loadAt, Instr.sureAddr, hl, Result.andThen]
 unfold Oper.wp
 rw [hex]
 exact hK _ _ h
end
def d0A : Dlg := ⟨[57], ⟨[], ⟨[115, 105, 112], [97], [98], 0, [], []⟩, [⟨[116, 97, 103], [120], true⟩]⟩, pFrom, pUri, [], 7, 0⟩
def rqT (n : Int) : Rq := ⟨pFrom, pTo, [49], [120], [57], n, [⟨[], pUri, []⟩], []⟩
theorem ex18_4 : beginS plainRq [120] = ((d0A, 0) : Dlg × Int) := by kernel_rfl
theorem ex18_5 : takeS d0A (rqT 7) = ((d0A, 180) : Dlg × Int) := by kernel_rfl
theorem ex18_6 : (takeS d0A (rqT 8)).2 = 0 := by decide +kernel
theorem ex18_7 : whereD d0A = [100, 58, 53, 48, 55, 48] := by decide +kernel
theorem adrB_from : AdrB pFrom := ⟨by decide, by decide, by decide, fun p hp => (by cases hp), fun p hp => (by cases hp), fun p hp => (by rw [List.mem_singleton.1 hp]; decide), by decide, by decide, by decide⟩
theorem adrB_to : AdrB pTo := ⟨by decide, by decide, by decide, fun p hp => (by cases hp), fun p hp => (by cases hp), fun p hp => (by cases hp), by decide, by decide, by decide⟩
theorem rqB_plain : RqB plainRq := ⟨adrB_from, adrB_to, fun c hc => (by rw [List.mem_singleton.1 hc]; decide), by decide, by decide, by decide⟩
theorem d0A_b1 : ∀ p ∈ d0A.loc.ps, p.name.length ≤ 4294967280 := fun p hp => by rw [List.mem_singleton.1 hp]; decide
theorem d0A_b2 : ∀ p ∈ d0A.rem.ps, p.name.length ≤ 4294967280 := fun p hp => by rw [List.mem_singleton.1 hp]; decide
theorem rqT_b3 (n : Int) : ∀ c ∈ (rqT n).contact, c.uri.ps.length ≤ 1099511627776 ∧ c.uri.hs.length ≤ 1099511627776 := fun c hc => by rw [List.mem_singleton.1 hc]; decide
set_option maxHeartbeats 12800000 in
theorem awake18_c (w : World) (hm : Ml w) : Calls Tryz.prog 12 #[] w fun e w' => e = .returned (.bool true) ∧ Below w.heap.size w w' := by
 have HM := κ hm
 have HPL := κ (fun wx => plainQ_c wx)
 have HBG := κ (fun wx rs hx hr => begin_k rs ⟨#[120]⟩ plainRq wx hx hr rqB_plain (by decide) (by decide +kernel))
 rw [show us ⟨#[120]⟩ = [120] from rfl, ex18_4] at HBG
 have HT1 := κ (fun wx vs rs hd hr => take_c vs (.agg rs) d0A (rqT 7) wx hd hr d0A_b1 d0A_b2 (rqT_b3 7))
 rw [ex18_5] at HT1
 have HT2 := κ (fun wx vs rs hd hr => take_c vs (.agg rs) d0A (rqT 8) wx hd hr d0A_b1 d0A_b2 (rqT_b3 8))
 rw [ex18_6] at HT2
 have HWD := κ (fun wx vs hx hd => whereD_c (.agg vs) d0A wx hx hd (by decide) (by decide) (by decide) (fun x hx => (by cases hx)) (fun x hx => (by cases hx)))
 rw [ex18_7, show bs [100, 58, 53, 48, 55, 48] = ⟨#[100, 58, 53, 48, 55, 48]⟩ from rfl] at HWD
 dsimp only at HBG HT1
 clear hm
 have hZ0 : Below w.heap.size w w := Below.refl _ _
 go_enter Tryz.func12, Tryz.ntmps12
 go_wp2_with (first | (go_at_call 26; refine (HPL.out _).mono ?_; rintro e w1 ⟨rs, rfl, s38, one, _, hR, hC1⟩; replace hZ0 := hZ0.trans (hC1.mono hZ0.size)) | (go_at_call 10; refine (HBG.out _ _ (HM.out.below hZ0) hR).mono ?_; rintro e w2 ⟨ds, rfl, hD, hC2⟩; replace hZ0 := hZ0.trans (hC2.mono hZ0.size)) | (with_reducible refine holdStore 34 rfl ?_))
 unfold Hold
 obtain ⟨ds', ed, d26, done_, dl, _, hD⟩ := hD.row
 injection ed with ed
 subst ed
 refine wpList_storeNew (vs := ds) rfl rfl rfl rfl (by rw [d26]; rfl) (by rw [d26]; rfl) done_ ?_
 clear hC1 hC2 hR s38 one
 have bd := Blk.new w2 34 ds
 have hZ1 := hZ0.alloc hZ0.size (.cells ds 34)
 have hD1 := κ (hD.below ((Below.refl w2.heap.size w2).alloc (ρ _) (.cells ds 34)) (ρ _))
 obtain ⟨gd, hgd⟩ : ∃ x, x = w2.heap.size := ⟨_, rfl⟩
 obtain ⟨w3, hw3⟩ : ∃ x, x = w2.alloc (.cells ds 34) := ⟨_, rfl⟩
 rw [← hw3] at bd hZ1 hD1
 rw [← hw3]
 rw [← hgd] at bd
 rw [← hgd]
 clear hw3 hgd hZ0 hD
 go_wp2_with (first | (go_at_call 26; refine (HPL.out _).mono ?_; rintro e w4 ⟨rs, rfl, s38, one, _, hR, hC⟩) | (with_reducible refine holdStore 32 rfl ?_))
 unfold Hold
 refine wpList_storeNew (vs := rs) rfl rfl rfl rfl (by rw [s38]; rfl) (by rw [s38]; rfl) one ?_
 obtain ⟨rs', er, _, _, r26, _, r28, _, hR⟩ := hR.row
 injection er with er
 subst er
 have hgd3 := bd.lt
 have hZ2 := hZ1.trans (hC.mono hZ1.size)
 have hZ3 := hZ2.alloc hZ2.size (.cells rs 32)
 replace bd := (bd.call hC).alloc (.cells rs 32)
 have br := Blk.new w4 32 rs
 have hB3 := hC.alloc hC.size (.cells rs 32)
 have hA : Below w4.heap.size w4 (w4.alloc (.cells rs 32)) := (Below.refl _ _).alloc (ρ _) _
 have HR4 := κ hR
 have hgr : w4.heap.size ≠ gd := Nat.ne_of_gt (Nat.lt_of_lt_of_le hgd3 hC.size)
 have hg3 : w3.heap.size ≤ w4.heap.size := hC.size
 have hgB : w.heap.size ≤ w4.heap.size := hZ2.size
 obtain ⟨gr, hgr2⟩ : ∃ x, x = w4.heap.size := ⟨_, rfl⟩
 obtain ⟨w5, hw5⟩ : ∃ x, x = w4.alloc (.cells rs 32) := ⟨_, rfl⟩
 rw [← hw5] at bd br hZ3 hA hB3
 rw [← hw5]
 rw [← hgr2] at br hgr hg3 hgB
 rw [← hgr2]
 have hg4 : w4.heap.size ≤ gr := Nat.le_of_eq hgr2.symm
 clear hw5 hgr2 hC hZ1 hZ2 hR HBG HPL hgd3
 have x26 := (boxedCell br 26).trans r26
 have f26 := boxedFree br 26
 go_upto_region 4 with fail
 -- the tag is told
 replace hZ3 := hZ3.setCell (p := ⟨gr, 26, none⟩) hgB (.string ⟨#[120]⟩)
 replace hA := hA.setCell (p := ⟨gr, 26, none⟩) hg4 (.string ⟨#[120]⟩)
 replace hB3 := hB3.setCell (p := ⟨gr, 26, none⟩) hg3 (.string ⟨#[120]⟩)
 replace bd := bd.far (p := ⟨gr, 26, none⟩) (Ne.symm hgr) (.string ⟨#[120]⟩)
 replace br : Blk _ gr 32 (rs.setIfInBounds 26 (.string ⟨#[120]⟩)) := br.set_ 26 (.string ⟨#[120]⟩)
 obtain ⟨ra, hra⟩ : ∃ x, x = rs.setIfInBounds 26 (.string ⟨#[120]⟩) := ⟨_, rfl⟩
 replace s38 : ra.size = 38 := by rw [hra, Array.size_setIfInBounds, s38]
 obtain ⟨w6, hwx⟩ : ∃ x, x = w5.setCell ⟨gr, 26, none⟩ (.string ⟨#[120]⟩) := ⟨_, rfl⟩
 rw [← hra] at br
 rw [← hwx] at hZ3 hA hB3 bd br
 rw [← hwx]
 clear hwx
 have hRa := κ (show RReq w4 (.agg ra) (rqT 7) from by rw [hra]; exact HR4.out.setTo [120])
 have r28a : ra[28]? = some (.int .i64 7) := by rw [hra, Array.getElem?_setIfInBounds_ne (by decide)]; exact r28
 clear hra r26 r28
 -- it is taken
 go_wp2_with (with_reducible refine holdLoad 34 rfl ?_)
 unfold Hold
 refine wpList_loadB (vs := ds) rfl rfl rfl Tryz.underlying34 (by rw [d26]; rfl) bd (whole _) ?_
 go_wp2_with (with_reducible refine holdLoad 32 rfl ?_)
 unfold Hold
 refine wpList_loadB (vs := ra) rfl rfl rfl Tryz.underlying32 (by rw [s38]; rfl) br (whole _) ?_
 go_wp2_with (first | (go_at_call 22; refine (HT1.out _ _ _ (hD1.out.below hB3 (ρ _)) (hRa.out.below hA (ρ _))).mono ?_; rintro e y ⟨ta, rfl, hT, _, hC⟩) | (with_reducible refine holdStore 34 rfl ?_))
 unfold Hold
 obtain ⟨t', et, t26, tone, _, _, _⟩ := hT.row
 injection et with et
 subst et
 refine wpList_storeNew (vs := ta) rfl rfl rfl rfl (by rw [t26]; rfl) (by rw [t26]; rfl) tone ?_
 replace hZ3 := (hZ3.trans (hC.mono hZ3.size)).alloc (hZ3.trans (hC.mono hZ3.size)).size (.cells ta 34)
 replace hA := (hA.trans (hC.mono hA.size)).alloc (hA.trans (hC.mono hA.size)).size (.cells ta 34)
 replace hB3 := (hB3.trans (hC.mono hB3.size)).alloc (hB3.trans (hC.mono hB3.size)).size (.cells ta 34)
 replace bd := (bd.call hC).alloc (.cells ta 34)
 replace br := (br.call hC).alloc (.cells ta 34)
 obtain ⟨w7, hwx⟩ : ∃ x, x = y.alloc (.cells ta 34) := ⟨_, rfl⟩
 rw [← hwx] at hZ3 hA hB3 bd br
 rw [← hwx]
 clear hwx hC hT t26 tone
 have x28 := (boxedCell br 28).trans r28a
 have f28 := boxedFree br 28
 go_upto_region 6 with fail
 replace hZ3 := hZ3.setCell (p := ⟨gr, 28, none⟩) hgB (.int .i64 8)
 replace hA := hA.setCell (p := ⟨gr, 28, none⟩) hg4 (.int .i64 8)
 replace hB3 := hB3.setCell (p := ⟨gr, 28, none⟩) hg3 (.int .i64 8)
 replace bd := bd.far (p := ⟨gr, 28, none⟩) (Ne.symm hgr) (.int .i64 8)
 replace br : Blk _ gr 32 (ra.setIfInBounds 28 (.int .i64 8)) := br.set_ 28 (.int .i64 8)
 obtain ⟨rb, hra⟩ : ∃ x, x = ra.setIfInBounds 28 (.int .i64 8) := ⟨_, rfl⟩
 replace s38 : rb.size = 38 := by rw [hra, Array.size_setIfInBounds, s38]
 obtain ⟨w8, hwx⟩ : ∃ x, x = w7.setCell ⟨gr, 28, none⟩ (.int .i64 8) := ⟨_, rfl⟩
 rw [← hra] at br
 rw [← hwx] at hZ3 hA hB3 bd br
 rw [← hwx]
 clear hwx
 have hRb := κ (show RReq w4 (.agg rb) (rqT 8) from by rw [hra]; exact hRa.out.setSeq 8)
 clear hra r28a x28 f28
 go_wp2_with (with_reducible refine holdLoad 34 rfl ?_)
 unfold Hold
 refine wpList_loadB (vs := ds) rfl rfl rfl Tryz.underlying34 (by rw [d26]; rfl) bd (whole _) ?_
 go_wp2_with (with_reducible refine holdLoad 32 rfl ?_)
 unfold Hold
 refine wpList_loadB (vs := rb) rfl rfl rfl Tryz.underlying32 (by rw [s38]; rfl) br (whole _) ?_
 go_wp2_with (first | (go_at_call 22; refine (HT2.out _ _ _ (hD1.out.below hB3 (ρ _)) (hRb.out.below hA (ρ _))).mono ?_; rintro e y ⟨tb, rfl, hT, _, hC⟩) | (with_reducible refine holdStore 34 rfl ?_))
 unfold Hold
 obtain ⟨t', et, t26, tone, _, _, _⟩ := hT.row
 injection et with et
 subst et
 refine wpList_storeNew (vs := tb) rfl rfl rfl rfl (by rw [t26]; rfl) (by rw [t26]; rfl) tone ?_
 replace hZ3 := (hZ3.trans (hC.mono hZ3.size)).alloc (hZ3.trans (hC.mono hZ3.size)).size (.cells tb 34)
 replace hA := (hA.trans (hC.mono hA.size)).alloc (hA.trans (hC.mono hA.size)).size (.cells tb 34)
 replace hB3 := (hB3.trans (hC.mono hB3.size)).alloc (hB3.trans (hC.mono hB3.size)).size (.cells tb 34)
 replace bd := (bd.call hC).alloc (.cells tb 34)
 replace br := (br.call hC).alloc (.cells tb 34)
 obtain ⟨w9, hwx⟩ : ∃ x, x = y.alloc (.cells tb 34) := ⟨_, rfl⟩
 rw [← hwx] at hZ3 hA hB3 bd br
 rw [← hwx]
 clear hwx hC hT t26 tone
 have x24 := (boxedCell bd 24).trans dl
 have hD9 := κ (hD1.out.below hB3 (ρ _))
 have HWD9 := κ (HWD.out w9 ds (HM.out.below hZ3) hD9.out)
 go_wp2_with (with_reducible refine holdLoad 34 rfl ?_)
 unfold Hold
 refine wpList_loadG (vs := ds) (by rfl) rfl rfl Tryz.underlying34 (by rw [d26]; rfl) bd ?_
 go_wp2_with (go_at_call 27; refine HWD9.out.mono ?_; rintro e wz ⟨rfl, hCz⟩)
 go_ret
 exact ⟨rfl, hZ3.trans (hCz.mono hZ3.size)⟩
end Go.Proofs.YtipdiddjhimdcaaGreatDoor
