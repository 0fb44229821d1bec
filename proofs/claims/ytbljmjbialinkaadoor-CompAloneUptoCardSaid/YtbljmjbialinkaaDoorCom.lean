/-
  comp.Compose: it computes the plain function of its name.
-/
import Derived.Test.YtbljmjbialinkaaDoorComH
namespace Go.Proofs.YtbljmjbialinkaaDoor
set_option linter.unusedSimpArgs false
set_option linter.unusedVariables false
open Go.RowKit Go.Sort Go.Maps

set_option maxRecDepth 100000 in
set_option maxHeartbeats 25600000 in
theorem compose_f (who : List UInt8) (v : Value) (L : List Pb) (hwho : who.length ≤ 1048576) (hbd : ∀ p ∈ L, PubBd 1048576 p) (hl : L.length ≤ 1000) (w : World) (hm : Ml w) (hL : RPubs w v L) :
    Calls Tryd.prog 7 #[sv who, v] w fun e w' => ∃ u1 u2, e = .returned (.tuple #[.agg #[sv (composeS candP okDoc who L).1.ent, u1, u2], .int .i64 (composeS candP okDoc who L).2]) ∧ RTups w' u1 (composeS candP okDoc who L).1.tups ∧ RStrs w' u2 (composeS candP okDoc who L).1.notes ∧ Fresh w.heap.size u1 ∧ Fresh w.heap.size u2 ∧ Below w.heap.size w w' := by
  obtain ⟨po, pc, rfl, hml, c1⟩ := hL.form
  have CL := Lib.hid c1
  have BD := Lib.hid hbd
  have HM := Lib.hid hm
  have hmm := @run_makeMap Tryd.prog
  obtain ⟨br, mx1, hB1⟩ := mx_start w who
  obtain ⟨w1, hw1⟩ : ∃ w1, w1 = (((((w.alloc (.cells #[.string ⟨#[]⟩, .slice none 0 0, .slice none 0 0] 25)).alloc (.map #[] 0)).alloc (.map #[] 0)).alloc (.map #[] 0)).alloc (.cells #[sv who, .slice none 0 0, .slice none 0 0, .map (some (w.heap.size + 1)), .map (some (w.heap.size + 1 + 1)), .map (some (w.heap.size + 1 + 1 + 1))] 45)) := ⟨_, rfl⟩
  rw [← hw1] at br mx1 hB1
  obtain ⟨W, hW⟩ : ∃ x, x = bs who := ⟨_, rfl⟩
  have hsv : sv who = .string W := by rw [hW]; rfl
  rw [hsv] at hw1 ⊢
  have HW1 := Lib.hid hw1
  have hm1 := HM.out.below hB1
  have hck := fun wx hx (hd : RDoc wx (.agg #[.string W, .slice none 0 0, .slice none 0 0]) ⟨who, [], []⟩) => pidfCheck_c _ ⟨who, [], []⟩ ⟨hwho, (fun t ht => by cases ht), (fun n hn => by cases hn)⟩ wx hx hd
  have HR0 := Lib.hid (show RDoc w1 (.agg #[.string W, .slice none 0 0, .slice none 0 0]) ⟨who, [], []⟩ from ⟨_, _, by rw [← hsv], RTups.nil _, RRow.nil _⟩)
  have g0 : w1.cell? ⟨(w.heap.size + 1 + 1 + 1 + 1), 0, none⟩ = some (.string W) := by rw [← hsv]; exact boxedCell mx1.blk 0
  have g1 : w1.cell? ⟨(w.heap.size + 1 + 1 + 1 + 1), 1, none⟩ = some (.slice none 0 0) := boxedCell mx1.blk 1
  have g2 : w1.cell? ⟨(w.heap.size + 1 + 1 + 1 + 1), 2, none⟩ = some (.slice none 0 0) := boxedCell mx1.blk 2
  have HBR := Lib.hid br
  have HB1 := Lib.hid hB1
  have MX1 := Lib.hid mx1
  have HSV := Lib.hid hsv
  clear hw1 c1 hbd hL hm br mx1 hB1 hW hsv
  cases hok : okDoc ⟨who, [], []⟩ with
  | false =>
    simp only [hok, Bool.false_eq_true, if_false] at hck
    have HCK := Lib.hid hck
    have HE := Lib.hid (compose_err who L hok)
    clear hck hok
    go_enter Tryd.func7, Tryd.ntmps7
    go_upto_region 2 with fail
    rw [← HW1.out]
    go_wp2_with (first | (go_at_call 11; refine (HCK.out _ hm1 HR0.out).mono ?_; rintro e w2 ⟨rfl, hC2⟩; have hB2 := HB1.out.trans (hC2.mono HB1.out.size); have br2 := HBR.out.call hC2) | (with_reducible refine holdStore 25 rfl ?_))
    unfold Hold
    refine wpList_storeB (vs := #[.string ⟨#[]⟩, .slice none 0 0, .slice none 0 0]) (cs' := #[.string ⟨#[]⟩, .slice none 0 0, .slice none 0 0]) rfl rfl rfl rfl (by kernel_rfl) br2 (by decide) rfl rfl ?_
    intro w9 bz9 hfar9 hsz9 hbel9
    go_wp2
    refine bodyPost_ret (results_ct rfl rfl rfl Tryd.underlying25 (by kernel_rfl) bz9) rfl ?_
    rw [HE.out]
    exact ⟨_, _, rfl, RTups.nil _, RRow.nil _, Fresh.nil _ _ _, Fresh.nil _ _ _, hB2.trans (hbel9 _ (Nat.le_refl _))⟩
  | true =>
    simp only [hok, if_true] at hck
    have HCK := Lib.hid hck
    have HOK := Lib.hid hok
    clear hck hok
    go_enter Tryd.func7, Tryd.ntmps7
    go_upto_region 2 with fail
    rw [← HW1.out]
    go_wp2_with (go_at_call 11; refine (HCK.out _ hm1 HR0.out).mono ?_; rintro e w2 ⟨rfl, hC2⟩; have hB2 := HB1.out.trans (hC2.mono HB1.out.size); have br2 := HBR.out.call hC2; have mx2 := MX1.out.below hC2)
    have HB2 := Lib.hid hB2
    have HBR2 := Lib.hid br2
    have MX2 := Lib.hid mx2
    clear hB2 br2 mx2 hC2 g0 g1 g2 HCK HR0 hm1
    go_loopw [36, 8] (fun x y wr => ∃ (k : Nat) (last : Int), k ≤ L.length ∧ x = .int .i64 k ∧ y = .int .i64 last ∧ Hid (Below w2.heap.size w2 wr) ∧ Hid (chkP okDoc 0 L = chkP okDoc last (L.drop k)) ∧ -9223372036854775808 ≤ last ∧ last ≤ 9223372036854775807) (fun x _ _ => L.length - (intOf x).toNat)
    case atStart => exact ⟨0, 0, Nat.zero_le _, rfl, rfl, Lib.hid (Below.refl _ _), Lib.hid rfl, by decide, by decide⟩
    case round =>
      obtain ⟨k, last, hk, rfl, rfl, HB, HP, l1, l2⟩ := hrel
      have hBw := HB2.out.trans (HB.out.mono HB2.out.size)
      have brr := HBR2.out.call HB.out
      by_cases hlt : k < L.length
      · obtain ⟨b, off, rfl, hb1, hc1⟩ := CL.out (by omega)
        obtain ⟨q, hq⟩ : ∃ q, q = L[k] := ⟨_, rfl⟩
        have hpa := (hc1 k hlt).below hBw (Nat.le_refl _) hb1
        have hqb : PubBd 1048576 q := by rw [hq]; exact BD.out _ (List.getElem_mem hlt)
        have hst := chk_step last L k hlt
        rw [← hq] at hpa hst
        obtain ⟨a0, ⟨S1, a1⟩, ⟨S2, a2⟩, ⟨n3, a3⟩, a4, u1, u2, a5, a6, k1, k2⟩ := hpa
        have HK1 := Lib.hid k1
        have HK2 := Lib.hid k2
        obtain ⟨ao, ac, rfl, _, _⟩ := k1.form
        obtain ⟨bo, bc, rfl, _, _⟩ := k2.formT
        have hBp : Below wr.heap.size wr (wr.alloc (.cells #[.int .i64 q.num, .string S1, .string S2, .int .i64 n3, sv q.doc.ent, .slice ao q.doc.tups.length ac, .slice bo q.doc.notes.length bc] 27)) := (Below.refl _ _).alloc (Nat.le_refl _) _
        have bp := Blk.new wr 27 #[.int .i64 q.num, .string S1, .string S2, .int .i64 n3, sv q.doc.ent, .slice ao q.doc.tups.length ac, .slice bo q.doc.notes.length bc]
        obtain ⟨wp, hwp⟩ : ∃ wp, wp = wr.alloc (.cells #[.int .i64 q.num, .string S1, .string S2, .int .i64 n3, sv q.doc.ent, .slice ao q.doc.tups.length ac, .slice bo q.doc.notes.length bc] 27) := ⟨_, rfl⟩
        rw [← hwp] at hBp bp
        have HWP := Lib.hid hwp
        have hBw2 := hBw.trans (hBp.mono hBw.size)
        have brp := brr.call hBp
        have hmp := HM.out.below hBw2
        have HRD := Lib.hid (show RDoc wp (.agg #[sv q.doc.ent, .slice ao q.doc.tups.length ac, .slice bo q.doc.notes.length bc]) q.doc from ⟨_, _, rfl, HK1.out.below hBp (Nat.le_refl _), RRow.below HK2.out hBp (Nat.le_refl _)⟩)
        have hcq := fun wx hx hd => pidfCheck_c (.agg #[sv q.doc.ent, .slice ao q.doc.tups.length ac, .slice bo q.doc.notes.length bc]) q.doc hqb.2 wx hx hd
        have HN := Lib.hid (HB.out.trans (hBp.mono HB.out.size))
        have q1 := hqb.1.1
        have q2 := hqb.1.2
        clear hc1 hb1 hq k1 k2 hwp
        go_wp2_with (with_reducible refine holdStore 27 rfl ?_)
        unfold Hold
        refine wpList_storeNew (vs := #[.int .i64 q.num, .string S1, .string S2, .int .i64 n3, sv q.doc.ent, .slice ao q.doc.tups.length ac, .slice bo q.doc.notes.length bc]) rfl rfl rfl rfl (by kernel_rfl) (by rfl) (by rfl) ?_
        rw [← HWP.out]
        clear a0 a1 a2 a3 a4 a5 a6
        have p0 : wp.cell? ⟨wr.heap.size, 0, none⟩ = some (.int .i64 q.num) := boxedCell bp 0
        have p4 : wp.cell? ⟨wr.heap.size, 4, none⟩ = some (sv q.doc.ent) := boxedCell bp 4
        have p5 : wp.cell? ⟨wr.heap.size, 5, none⟩ = some (.slice ao q.doc.tups.length ac) := boxedCell bp 5
        have p6 : wp.cell? ⟨wr.heap.size, 6, none⟩ = some (.slice bo q.doc.notes.length bc) := boxedCell bp 6
        by_cases hle : q.num ≤ last
        · rw [if_pos hle] at hst
          have HE := Lib.hid (compose_bad who L HOK.out 1 (HP.out.trans hst) (by decide))
          clear hst hcq
          go_wp2_with (with_reducible refine holdStore 25 rfl ?_)
          unfold Hold
          refine wpList_storeB (vs := #[.string ⟨#[]⟩, .slice none 0 0, .slice none 0 0]) (cs' := #[.string ⟨#[]⟩, .slice none 0 0, .slice none 0 0]) rfl rfl rfl rfl (by kernel_rfl) brp (by decide) rfl rfl ?_
          intro w9 bz9 hfar9 hsz9 hbel9
          go_wp2
          refine bodyPost_ret (results_ct rfl rfl rfl Tryd.underlying25 (by kernel_rfl) bz9) rfl ?_
          rw [HE.out]
          exact ⟨_, _, rfl, RTups.nil _, RRow.nil _, Fresh.nil _ _ _, Fresh.nil _ _ _, hBw2.trans (hbel9 _ (Nat.le_refl _))⟩
        · rw [if_neg hle] at hst
          cases hod : okDoc q.doc with
          | false =>
            rw [if_pos hod] at hst
            have HE := Lib.hid (compose_bad who L HOK.out 140 (HP.out.trans hst) (by decide))
            simp only [hod, Bool.false_eq_true, if_false] at hcq
            have HCQ := Lib.hid hcq
            clear hst hcq hod
            go_wp2_with (first | (go_at_call 11; refine (HCQ.out _ hmp HRD.out).mono ?_; rintro e w5 ⟨rfl, hC5⟩; have hB5 := hBw2.trans (hC5.mono hBw2.size); have br5 := brp.call hC5) | (with_reducible refine holdStore 25 rfl ?_))
            unfold Hold
            refine wpList_storeB (vs := #[.string ⟨#[]⟩, .slice none 0 0, .slice none 0 0]) (cs' := #[.string ⟨#[]⟩, .slice none 0 0, .slice none 0 0]) rfl rfl rfl rfl (by kernel_rfl) br5 (by decide) rfl rfl ?_
            intro w9 bz9 hfar9 hsz9 hbel9
            go_wp2
            refine bodyPost_ret (results_ct rfl rfl rfl Tryd.underlying25 (by kernel_rfl) bz9) rfl ?_
            rw [HE.out]
            exact ⟨_, _, rfl, RTups.nil _, RRow.nil _, Fresh.nil _ _ _, Fresh.nil _ _ _, hB5.trans (hbel9 _ (Nat.le_refl _))⟩
          | true =>
            rw [if_neg (by rw [hod]; decide)] at hst
            have HP2 := Lib.hid (HP.out.trans hst)
            simp only [hod, if_true] at hcq
            have HCQ := Lib.hid hcq
            clear hst hcq hod
            go_wp2_with (go_at_call 11; refine (HCQ.out _ hmp HRD.out).mono ?_; rintro e w5 ⟨rfl, hC5⟩; have hN5 := HN.out.trans (hC5.mono HN.out.size); have bp5 := bp.call hC5; clear p0 p4 p5 p6; have p0 : w5.cell? ⟨wr.heap.size, 0, none⟩ = some (.int .i64 q.num) := boxedCell bp5 0)
            go_roundw
            case rel => exact ⟨k + 1, q.num, by omega, by go_num, rfl, Lib.hid hN5, HP2, q1, q2⟩
            case measure => simp [intOf]; omega
      · have HC0 := Lib.hid (show chkP okDoc 0 L = 0 by rw [HP.out, List.drop_eq_nil_iff.2 (by omega)]; rfl)
        have HE := Lib.hid (compose_ok who L HOK.out HC0.out)
        have HBw := Lib.hid hBw
        have HBRR := Lib.hid brr
        have MXR := Lib.hid (MX2.out.below HB.out)
        clear hBw brr HP
        go_wp2
        clear hlt
        focus
          go_loopw [57] (fun x wx => ∃ (k2 : Nat) (vt vn : Value) (M : Mix), k2 ≤ L.length ∧ x = .int .i64 k2 ∧ Hid (M = (L.take k2).foldl (addP candP) mix0) ∧ Hid (MxA wx (w.heap.size + 1) (w.heap.size + 1 + 1 + 1 + 1) who vt vn (w.heap.size + 1) (w.heap.size + 1 + 1) (w.heap.size + 1 + 1 + 1) M.out (M.out.map Tup.id) M.seen M.notes M.known) ∧ Hid (Below w.heap.size w wx) ∧ Hid (Blk wx w.heap.size 25 #[.string ⟨#[]⟩, .slice none 0 0, .slice none 0 0]) ∧ Hid (MixBd M (16 * k2))) (fun x _ => L.length - (intOf x).toNat)
          case atStart => exact ⟨0, _, _, mix0, Nat.zero_le _, rfl, Lib.hid rfl, MXR, HBw, HBRR, Lib.hid ⟨by decide, by decide, by decide, by decide⟩⟩
          case round =>
            obtain ⟨k2, vt, vn, M, hk2, rfl, HM2, HX, HBx, HRx, HMB⟩ := hrel
            by_cases hlt : k2 < L.length
            · obtain ⟨b, off, rfl, hb1, hc1⟩ := CL.out (by omega)
              obtain ⟨q, hq⟩ : ∃ q, q = L[k2] := ⟨_, rfl⟩
              have hpw := hc1 k2 hlt
              have hqb : PubBd 1048576 q := by rw [hq]; exact BD.out _ (List.getElem_mem hlt)
              have hdoc : okDoc q.doc = true := by rw [hq]; exact chk_docs okDoc L 0 HC0.out _ (List.getElem_mem hlt)
              obtain ⟨_, hd1, hd2⟩ := okDoc_facts q.doc hdoc
              have HM3 := Lib.hid (show (L.take (k2 + 1)).foldl (addP candP) mix0 = addP candP M q by rw [List.take_succ_eq_append_getElem hlt, List.foldl_append, ← HM2.out, hq]; rfl)
              rw [← hq] at hpw
              obtain ⟨a0, ⟨S1, a1⟩, ⟨S2, a2⟩, ⟨n3, a3⟩, a4, u1, u2, a5, a6, k1, k3⟩ := hpw
              have ux : ∀ o, wr.cell? ⟨b, o, none⟩ = w.cell? ⟨b, o, none⟩ := fun o => HBx.out.cell (p := ⟨b, o, none⟩) hb1
              rw [← ux] at a0 a1 a2 a3 a4 a5 a6
              obtain ⟨ao, ac, rfl, _, ht1⟩ := k1.form
              obtain ⟨bo, bc, rfl, _, hs1⟩ := k3.formT
              have HT1 := Lib.hid ht1
              have HS1 := Lib.hid hs1
              have hBp : Below wr.heap.size wr (wr.alloc (.cells #[.int .i64 q.num, .string S1, .string S2, .int .i64 n3, sv q.doc.ent, .slice ao q.doc.tups.length ac, .slice bo q.doc.notes.length bc] 27)) := (Below.refl _ _).alloc (Nat.le_refl _) _
              have bp := Blk.new wr 27 #[.int .i64 q.num, .string S1, .string S2, .int .i64 n3, sv q.doc.ent, .slice ao q.doc.tups.length ac, .slice bo q.doc.notes.length bc]
              have hgp : (w.heap.size + 1 + 1 + 1 + 1) < wr.heap.size := HX.out.blk.lt
              have hvt : vt.ownBlock ≠ some wr.heap.size := fun e => Nat.lt_irrefl _ (World.ownsRow.lt HX.out.tups _ e).2
              have hvn : vn.ownBlock ≠ some wr.heap.size := fun e => Nat.lt_irrefl _ (World.ownsRow.lt HX.out.nts _ e).2
              obtain ⟨wp, hwp⟩ : ∃ wp, wp = wr.alloc (.cells #[.int .i64 q.num, .string S1, .string S2, .int .i64 n3, sv q.doc.ent, .slice ao q.doc.tups.length ac, .slice bo q.doc.notes.length bc] 27) := ⟨_, rfl⟩
              rw [← hwp] at hBp bp
              have HWP := Lib.hid hwp
              have HBP := Lib.hid (HBx.out.trans (hBp.mono HBx.out.size))
              have HXP := Lib.hid (HX.out.below hBp)
              have HRP := Lib.hid (HRx.out.call hBp)
              have HPB := Lib.hid (show PbAt wp wr.heap.size #[.int .i64 q.num, .string S1, .string S2, .int .i64 n3, sv q.doc.ent, .slice ao q.doc.tups.length ac, .slice bo q.doc.notes.length bc] vt vn from ⟨bp, hvt, hvn⟩)
              have hq1 := hqb.1.1
              have hq2 := hqb.1.2
              have HQT := Lib.hid hqb.2.2.1
              have HQN := Lib.hid hqb.2.2.2
              clear hc1 hb1 hq k1 k3 hwp ht1 hs1 hvt hvn hBp hqb hdoc ux
              go_wp2_with (with_reducible refine holdStore 27 rfl ?_)
              unfold Hold
              refine wpList_storeNew (vs := #[.int .i64 q.num, .string S1, .string S2, .int .i64 n3, sv q.doc.ent, .slice ao q.doc.tups.length ac, .slice bo q.doc.notes.length bc]) rfl rfl rfl rfl (by kernel_rfl) (by rfl) (by rfl) ?_
              rw [← HWP.out]
              clear a0 a1 a2 a3 a4 a5 a6
              obtain ⟨pb, hpb⟩ : ∃ pb, pb = wr.heap.size := ⟨_, rfl⟩
              rw [← hpb] at bp hgp HPB
              simp only [← hpb]
              clear hpb
              have p5 : wp.cell? ⟨pb, 5, none⟩ = some (.slice ao q.doc.tups.length ac) := boxedCell bp 5
              clear bp
              go_wp2
              clear p5 HWP
              focus
                go_loopw [65] (fun x wx => ∃ (j : Nat) (vt vn : Value) (M3 : Mix), j ≤ q.doc.tups.length ∧ x = .int .i64 j ∧ Hid (M3 = (q.doc.tups.take j).foldl (addT candP q.num) M) ∧ Hid (MxA wx (w.heap.size + 1) (w.heap.size + 1 + 1 + 1 + 1) who vt vn (w.heap.size + 1) (w.heap.size + 1 + 1) (w.heap.size + 1 + 1 + 1) M3.out (M3.out.map Tup.id) M3.seen M3.notes M3.known) ∧ Hid (Below w.heap.size w wx) ∧ Hid (Blk wx w.heap.size 25 #[.string ⟨#[]⟩, .slice none 0 0, .slice none 0 0]) ∧ Hid (PbAt wx pb #[.int .i64 q.num, .string S1, .string S2, .int .i64 n3, sv q.doc.ent, .slice ao q.doc.tups.length ac, .slice bo q.doc.notes.length bc] vt vn) ∧ Hid (MixBd M3 (16 * k2 + j))) (fun x _ => q.doc.tups.length - (intOf x).toNat)
                case atStart => exact ⟨0, vt, vn, M, Nat.zero_le _, rfl, Lib.hid rfl, HXP, HBP, HRP, HPB, HMB⟩
                case round =>
                  obtain ⟨j, vt3, vn3, M3, hj, rfl, HJ, HX3, HB3, HR3, HP3, HMB3⟩ := hrel
                  by_cases hlj : j < q.doc.tups.length
                  · obtain ⟨b1, o1, rfl, hb1, hcc⟩ := HT1.out (by omega)
                    obtain ⟨t, ht⟩ : ∃ t, t = q.doc.tups[j] := ⟨_, rfl⟩
                    have htb : TupBd 1048576 t := by rw [ht]; exact HQT.out _ (List.getElem_mem hlj)
                    have HJ2 := Lib.hid (show (q.doc.tups.take (j + 1)).foldl (addT candP q.num) M = addT candP q.num M3 t by rw [List.take_succ_eq_append_getElem hlj, List.foldl_append, ← HJ.out, ht]; rfl)
                    have hcell := hcc j hlj
                    rw [← ht] at hcell
                    obtain ⟨y0, y1, y2, y3, y4⟩ := hcell
                    have ux : ∀ o, wr.cell? ⟨b1, o, none⟩ = w.cell? ⟨b1, o, none⟩ := fun o => HB3.out.cell (p := ⟨b1, o, none⟩) hb1
                    rw [← ux] at y0 y1 y2 y3 y4
                    have hBt : Below wr.heap.size wr (wr.alloc (.cells #[sv t.id, .bool t.opn, sv t.con, .int .i64 t.prio, sv t.note] 39)) := (Below.refl _ _).alloc (Nat.le_refl _) _
                    have bt := Blk.new wr 39 #[sv t.id, .bool t.opn, sv t.con, .int .i64 t.prio, sv t.note]
                    obtain ⟨wt, hwt⟩ : ∃ wt, wt = wr.alloc (.cells #[sv t.id, .bool t.opn, sv t.con, .int .i64 t.prio, sv t.note] 39) := ⟨_, rfl⟩
                    rw [← hwt] at hBt bt
                    have HWT := Lib.hid hwt
                    have m4 := HX3.out.below hBt
                    have r4 := HR3.out.call hBt
                    have pb4 := HP3.out.1.call hBt
                    have hB4 := HB3.out.trans (hBt.mono HB3.out.size)
                    have hw4 := hBt.size
                    have hpl := HP3.out.1.lt
                    obtain ⟨f1, f2, f3, f4⟩ := HMB3.out
                    have HMT := Lib.hid (mixT_c (w.heap.size + 1) (w.heap.size + 1 + 1 + 1 + 1) who vt3 vn3 (w.heap.size + 1) (w.heap.size + 1 + 1) (w.heap.size + 1 + 1 + 1) M3.out M3.seen M3.notes M3.known t q.num htb hq1 hq2 f1 (by omega) wt m4)
                    have ha := addT_bd q.num M3 t
                    have HFIN := Lib.hid (fun (w5 : World) (vt' : Value) (m5 : MxA w5 (w.heap.size + 1) (w.heap.size + 1 + 1 + 1 + 1) who vt' vn3 (w.heap.size + 1) (w.heap.size + 1 + 1) (w.heap.size + 1 + 1 + 1) (addT candP q.num M3 t).out ((addT candP q.num M3 t).out.map Tup.id) (addT candP q.num M3 t).seen M3.notes M3.known) (hv : ∀ k, vt'.ownBlock = some k → vt3.ownBlock = some k ∨ wt.heap.size ≤ k) (hB5 : Bl (w.heap.size + 1) (MxX (w.heap.size + 1 + 1 + 1 + 1) (w.heap.size + 1) (w.heap.size + 1 + 1) (w.heap.size + 1 + 1 + 1) vt3 vn3) wt w5) => (show MxA w5 (w.heap.size + 1) (w.heap.size + 1 + 1 + 1 + 1) who vt' vn3 (w.heap.size + 1) (w.heap.size + 1 + 1) (w.heap.size + 1 + 1 + 1) (addT candP q.num M3 t).out ((addT candP q.num M3 t).out.map Tup.id) (addT candP q.num M3 t).seen (addT candP q.num M3 t).notes (addT candP q.num M3 t).known ∧ Below w.heap.size w w5 ∧ Blk w5 w.heap.size 25 #[.string ⟨#[]⟩, .slice none 0 0, .slice none 0 0] ∧ PbAt w5 pb #[.int .i64 q.num, .string S1, .string S2, .int .i64 n3, sv q.doc.ent, .slice (some ⟨b1, o1, none⟩) q.doc.tups.length ac, .slice bo q.doc.notes.length bc] vt' vn3 ∧ MixBd (addT candP q.num M3 t) (16 * k2 + (j + 1)) from by
                      refine ⟨by rw [ha.2.2.1, ha.2.2.2]; exact m5, hB4.trans (hB5.below.mono (by omega)), (hB5.below.block _ (by omega)).trans r4, ⟨hB5.blk pb4 ?_, fun e => ?_, HP3.out.2.2⟩, ⟨ha.1 f1, by rw [ha.2.2.1]; exact f2, by rw [ha.2.1]; omega, by rw [ha.2.2.2]; omega⟩⟩
                      · rintro (h | h | h | h | h | h)
                        · omega
                        · omega
                        · omega
                        · omega
                        · exact HP3.out.2.1 h
                        · exact HP3.out.2.2 h
                      · rcases hv _ e with h | h
                        · exact HP3.out.2.1 h
                        · omega))
                    have c0 : wt.cell? ⟨pb, 0, none⟩ = some (.int .i64 q.num) := boxedCell pb4 0
                    clear hcc hb1 ht ux hwt m4 r4 hB4 hBt ha f1 f2 f3 f4 htb
                    go_wp2_with (with_reducible refine holdStore 39 rfl ?_)
                    unfold Hold
                    refine wpList_storeNew (vs := #[sv t.id, .bool t.opn, sv t.con, .int .i64 t.prio, sv t.note]) rfl rfl rfl rfl (by kernel_rfl) (by rfl) (by rfl) ?_
                    rw [← HWT.out]
                    clear y0 y1 y2 y3 y4
                    obtain ⟨r0, r1, r2, r3, r4⟩ := blk_f5T bt
                    clear bt pb4
                    go_wp2_with (go_at_call 12; refine HMT.out.mono ?_; rintro e w5 ⟨rfl, ⟨vt', m5, hv5⟩, hB5⟩)
                    obtain ⟨g1, g2, g3, g4, g5⟩ := HFIN.out w5 vt' m5 hv5 hB5
                    go_roundw
                    case rel => exact ⟨j + 1, vt', vn3, _, by omega, by go_num, Lib.hid HJ2.out.symm, Lib.hid g1, Lib.hid g2, Lib.hid g3, Lib.hid g4, Lib.hid g5⟩
                    case measure => simp [intOf]; omega
                  · have HJ3 := Lib.hid (show M3 = q.doc.tups.foldl (addT candP q.num) M by rw [HJ.out, List.take_of_length_le (by omega)])
                    have c6 : wr.cell? ⟨pb, 6, none⟩ = some (.slice bo q.doc.notes.length bc) := boxedCell HP3.out.1 6
                    go_wp2
                    clear c6 hlj
                    focus
                      go_loopw [79] (fun x wx => ∃ (i : Nat) (vn : Value) (M4 : Mix), i ≤ q.doc.notes.length ∧ x = .int .i64 i ∧ Hid (M4 = (q.doc.notes.take i).foldl addN M3) ∧ Hid (MxA wx (w.heap.size + 1) (w.heap.size + 1 + 1 + 1 + 1) who vt3 vn (w.heap.size + 1) (w.heap.size + 1 + 1) (w.heap.size + 1 + 1 + 1) M4.out (M4.out.map Tup.id) M4.seen M4.notes M4.known) ∧ Hid (Below w.heap.size w wx) ∧ Hid (Blk wx w.heap.size 25 #[.string ⟨#[]⟩, .slice none 0 0, .slice none 0 0]) ∧ Hid (MixBd M4 (16 * k2 + 16 + i) ∧ M4.known.length ≤ 16 * k2 + i ∧ M4.seen.length ≤ 16 * k2 + 16)) (fun x _ => q.doc.notes.length - (intOf x).toNat)
                      case atStart =>
                        obtain ⟨f1, f2, f3, f4⟩ := HMB3.out
                        have e4 : M3.known = M.known := by rw [HJ3.out]; exact foldT_known q.num q.doc.tups M
                        exact ⟨0, vn3, M3, Nat.zero_le _, rfl, Lib.hid rfl, HX3, HB3, HR3, Lib.hid ⟨⟨f1, f2, by omega, by omega⟩, by rw [e4]; exact HMB.out.2.2.2, by omega⟩⟩
                      case round =>
                        obtain ⟨i, vn4, M4, hi, rfl, HI, HX4, HB4, HR4, HMB4⟩ := hrel
                        by_cases hli : i < q.doc.notes.length
                        · obtain ⟨b1, o1, rfl, hb1, hcc⟩ := HS1.out (by omega)
                          obtain ⟨s, hs⟩ : ∃ s, s = q.doc.notes[i] := ⟨_, rfl⟩
                          have hsb : s.length ≤ 1048576 := by rw [hs]; exact HQN.out _ (List.getElem_mem hli)
                          have HI2 := Lib.hid (show (q.doc.notes.take (i + 1)).foldl addN M3 = addN M4 s by rw [List.take_succ_eq_append_getElem hli, List.foldl_append, ← HI.out, hs]; rfl)
                          have hcell := hcc i hli
                          rw [← hs] at hcell
                          have y0 : wr.cell? ⟨b1, o1 + i, none⟩ = some (sv s) := by rw [HB4.out.cell (p := ⟨b1, o1 + i, none⟩) hb1]; exact hcell
                          obtain ⟨⟨f1, f2, f3, f4⟩, f5, f6⟩ := HMB4.out
                          have HMN := Lib.hid (mixN_c (w.heap.size + 1) (w.heap.size + 1 + 1 + 1 + 1) who vt3 vn4 (w.heap.size + 1) (w.heap.size + 1 + 1) (w.heap.size + 1 + 1 + 1) M4.out M4.seen (M4.out.map Tup.id) M4.notes M4.known s hsb f2 (by omega) wr HX4.out)
                          have ha := addN_bd M4 s
                          have HFIN := Lib.hid (fun (w5 : World) (vn' : Value) (m5 : MxA w5 (w.heap.size + 1) (w.heap.size + 1 + 1 + 1 + 1) who vt3 vn' (w.heap.size + 1) (w.heap.size + 1 + 1) (w.heap.size + 1 + 1 + 1) M4.out (M4.out.map Tup.id) M4.seen (addN M4 s).notes (addN M4 s).known) (hB5 : Bl (w.heap.size + 1) (MxX (w.heap.size + 1 + 1 + 1 + 1) (w.heap.size + 1) (w.heap.size + 1 + 1) (w.heap.size + 1 + 1 + 1) vt3 vn4) wr w5) => (show MxA w5 (w.heap.size + 1) (w.heap.size + 1 + 1 + 1 + 1) who vt3 vn' (w.heap.size + 1) (w.heap.size + 1 + 1) (w.heap.size + 1 + 1 + 1) (addN M4 s).out ((addN M4 s).out.map Tup.id) (addN M4 s).seen (addN M4 s).notes (addN M4 s).known ∧ Below w.heap.size w w5 ∧ Blk w5 w.heap.size 25 #[.string ⟨#[]⟩, .slice none 0 0, .slice none 0 0] ∧ MixBd (addN M4 s) (16 * k2 + 16 + (i + 1)) ∧ (addN M4 s).known.length ≤ 16 * k2 + (i + 1) ∧ (addN M4 s).seen.length ≤ 16 * k2 + 16 from by
                            refine ⟨by rw [ha.2.2.1, ha.2.2.2]; exact m5, HB4.out.trans (hB5.below.mono (by omega)), (hB5.below.block _ (by omega)).trans HR4.out, ⟨by rw [ha.2.2.1]; exact f1, ha.1 f2, by rw [ha.2.2.2]; omega, by rw [ha.2.1]; omega⟩, by rw [ha.2.1]; omega, by rw [ha.2.2.2]; exact f6⟩))
                          clear hcc hcell hb1 hs ha f1 f2 f3 f4 f5 f6 hsb
                          go_wp2_with (go_at_call 13; refine HMN.out.mono ?_; rintro e w5 ⟨rfl, ⟨vn', m5, _⟩, hB5⟩)
                          obtain ⟨g1, g2, g3, g4⟩ := HFIN.out w5 vn' m5 hB5
                          go_roundw
                          case rel => exact ⟨i + 1, vn', _, by omega, by go_num, Lib.hid HI2.out.symm, Lib.hid g1, Lib.hid g2, Lib.hid g3, Lib.hid g4⟩
                          case measure => simp [intOf]; omega
                        · have HI3 := Lib.hid (show M4 = addP candP M q by rw [HI.out, List.take_of_length_le (by omega), HJ3.out]; rfl)
                          obtain ⟨⟨f1, f2, f3, f4⟩, f5, f6⟩ := HMB4.out
                          have HMBF := Lib.hid (show MixBd M4 (16 * (k2 + 1)) from ⟨f1, f2, by omega, by omega⟩)
                          clear f1 f2 f3 f4 f5 f6
                          go_wp2
                          go_roundw
                          case rel => exact ⟨k2 + 1, vt3, vn4, M4, by omega, by go_num, Lib.hid (HI3.out.trans HM3.out.symm), HX4, HB4, HR4, HMBF⟩
                          case measure => simp [intOf]; omega
            · have HMF := Lib.hid (show M = mixS candP L by rw [HM2.out, List.take_of_length_le (by omega)]; rfl)
              have hmx := HX.out
              obtain ⟨q1, x1, e1⟩ := row_formM hmx.tups
              obtain ⟨q2, x2, e2⟩ := row_formM hmx.nts
              subst e1
              subst e2
              have g0 : wr.cell? ⟨(w.heap.size + 1 + 1 + 1 + 1), 0, none⟩ = some (.string W) := by rw [← HSV.out]; exact boxedCell hmx.blk 0
              have g1 : wr.cell? ⟨(w.heap.size + 1 + 1 + 1 + 1), 1, none⟩ = some (.slice q1 M.out.length x1) := boxedCell hmx.blk 1
              have g2 : wr.cell? ⟨(w.heap.size + 1 + 1 + 1 + 1), 2, none⟩ = some (.slice q2 M.notes.length x2) := boxedCell hmx.blk 2
              have HMX := Lib.hid hmx
              clear hmx
              go_wp2_with (with_reducible refine holdStore 25 rfl ?_)
              unfold Hold
              refine wpList_storeB (vs := #[.string W, .slice q1 M.out.length x1, .slice q2 M.notes.length x2]) (cs' := #[.string W, .slice q1 M.out.length x1, .slice q2 M.notes.length x2]) rfl rfl rfl rfl (by kernel_rfl) HRx.out (by exact Nat.le_refl 3) (by rfl) (by rfl) ?_
              intro w9 bz9 hfar9 hsz9 hbel9
              go_wp2
              refine bodyPost_ret (results_ct rfl rfl rfl Tryd.underlying25 (by kernel_rfl) bz9) rfl ?_
              have hgr := far_grown (hbel9 0 (Nat.zero_le _)) hfar9
              have t1 : Tups w9 (w.heap.size + 1) (.slice q1 M.out.length x1) M.out := World.ownsRow.kept HMX.out.tups hgr (.inr (fun e => by have := (World.ownsRow.lt HMX.out.tups _ e).1; omega))
              have t2 : Strs w9 (w.heap.size + 1) 9 (.slice q2 M.notes.length x2) M.notes := World.ownsRow.kept HMX.out.nts hgr (.inr (fun e => by have := (World.ownsRow.lt HMX.out.nts _ e).1; omega))
              rw [HE.out, ← HMF.out]
              have fr : ∀ {e : TypeId} {s m : Nat} {u : Value} {xs : List Value}, w9.ownsRow (w.heap.size + 1) e s u m xs → Fresh w.heap.size u := fun {e s m u xs} h a n c hu => by
                rcases h.2 with ⟨h0, _⟩ | ⟨g, cap, cur, h0, hb, _⟩
                · rw [h0] at hu; cases hu
                · rw [h0] at hu
                  injection hu with hu _ _
                  injection hu with hu
                  rw [← hu]
                  show w.heap.size ≤ g
                  omega
              exact ⟨_, _, by show _ = Ending.returned (.tuple #[.agg #[sv who, .slice q1 M.out.length x1, .slice q2 M.notes.length x2], .int .i64 0]); rw [HSV.out]; rfl, RRow.of_own t1, Strs.read t2, fr t1, fr t2, HBx.out.trans (hbel9 _ (Nat.le_refl _))⟩

theorem compose_c (who : List UInt8) (v : Value) (L : List Pb) (hwho : who.length ≤ 1048576) (hbd : ∀ p ∈ L, PubBd 1048576 p) (hl : L.length ≤ 1000) (w : World) (hm : Ml w) (hL : RPubs w v L) :
    Calls Tryd.prog 7 #[sv who, v] w fun e w' => ∃ vd, e = .returned (.tuple #[vd, .int .i64 (composeS candP okDoc who L).2]) ∧ RDoc w' vd (composeS candP okDoc who L).1 ∧ Below w.heap.size w w' :=
  (compose_f who v L hwho hbd hl w hm hL).mono fun e w' ⟨u1, u2, h1, h2, h3, _, _, h4⟩ => ⟨_, h1, ⟨u1, u2, rfl, h2, h3⟩, h4⟩

end Go.Proofs.YtbljmjbialinkaaDoor
