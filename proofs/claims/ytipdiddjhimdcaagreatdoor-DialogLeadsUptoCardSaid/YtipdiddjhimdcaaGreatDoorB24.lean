/-
  Packed: XLds.
-/
import Derived.Test.YtipdiddjhimdcaaGreatDoorB19
import Derived.Test.YtipdiddjhimdcaaGreatDoorB20
namespace Go.Proofs.YtipdiddjhimdcaaGreatDoor
set_option linter.unusedSimpArgs false
set_option linter.unusedVariables false
open Go.RowKit Go.Sort


theorem route_bd (x : List UInt8) (h : (parseA x).2 = 0) : (parseA x).1.uri.host.length ≤ 4294967280 ∧ -9223372036854775808 ≤ (parseA x).1.uri.port ∧ (parseA x).1.uri.port ≤ 9223372036854775807 := by
  obtain ⟨_, _, h3, _⟩ := checkA_parts _ ((parseA_ok x).1 h)
  obtain ⟨_, _, h4, h5, h6, _⟩ := checkU_parts _ h3
  unfold hostS at h4
  simp only [Bool.and_eq_true, decide_eq_true_eq] at h4
  exact ⟨by omega, by omega, by omega⟩
theorem beginS_dlg {r : Rq} {t : List UInt8} (h : (beginS r t).2 = 0) : ∃ c, r.contact = [c] ∧ (beginS r t).1 = ⟨r.call, taggedS r.dst t, r.fr, c.uri, r.routes, r.seq, 0⟩ := by
  rcases beginS_cases r t with ⟨_, e⟩ | ⟨_, _, e⟩ | ⟨_, _, _, e⟩ | ⟨_, _, _, _, e⟩ | ⟨_, _, _, c, hc, ⟨h0, e⟩ | ⟨_, e⟩⟩
  · rw [e] at h; cases h
  · rw [e] at h; cases h
  · rw [e] at h; cases h
  · rw [e] at h; cases h
  · rw [e] at h; exact absurd h h0
  · exact ⟨c, hc, by rw [e]⟩
theorem RqBd.rqB {r : Rq} (h : RqBd 1048576 r) : RqB r := by
  obtain ⟨⟨a1, a2, a3, a4, a5, a6, a7, a8⟩, ⟨b1, b2, b3, b4, b5, b6, b7, b8⟩, hc, h4, h5, h6, h7, _⟩ := h
  refine ⟨⟨by omega, by omega, by omega, fun p hp => by have := a3 p hp; omega, fun p hp => by have := a4 p hp; omega, fun p hp => by have := a5 p hp; omega, by omega, by omega, by omega⟩,
    ⟨by omega, by omega, by omega, fun p hp => by have := b3 p hp; omega, fun p hp => by have := b4 p hp; omega, fun p hp => by have := b5 p hp; omega, by omega, by omega, by omega⟩, fun c hc' => ?_, by omega, by omega, by omega⟩
  have := (hc c hc').2.2.2.2.2
  omega
theorem dig5060 : digits 5060 = [53, 48, 54, 48] := by decide +kernel
theorem by_facts (U : Uri) (Wt H : ByteArray) (hW : Wt = bs (byU U)) (hH : H = bs U.host) :
    Wt.size = H.size + 1 + (digits (if U.port = 0 then 5060 else U.port)).length ∧ Wt.extract 0 H.size = H ∧ (∀ h : H.size < Wt.size, Wt[H.size] = 58) ∧ (U.port = 0 ∨ U.port = 5060 → Wt.extract H.size Wt.size = ⟨#[58, 53, 48, 54, 48]⟩) := by
  have uW : us Wt = us H ++ 58 :: digits (if U.port = 0 then 5060 else U.port) := by rw [hW, hH, us_bs, us_bs]; rfl
  have hl : (us H).length = H.size := length_us H
  have hs : Wt.size = H.size + 1 + (digits (if U.port = 0 then 5060 else U.port)).length := by
    rw [← length_us, uW, List.length_append, hl, List.length_cons]; omega
  refine ⟨hs, ?_, ?_, ?_⟩
  · apply us_inj
    rw [us_extract, uW]
    simp [hl]
  · intro h
    have := get_us Wt H.size h
    rw [uW, List.getElem?_append_right (by omega), hl, Nat.sub_self] at this
    injection this with this
    exact this.symm
  · intro hp
    apply us_inj
    have e : (if U.port = 0 then 5060 else U.port) = 5060 := by rcases hp with h | h <;> rw [h] <;> rfl
    rw [e, dig5060] at uW
    rw [us_tail, uW, List.drop_left' hl]
    rfl
set_option maxRecDepth 100000 in
set_option maxHeartbeats 12800000 in
theorem dialogLeads_walk (rs : Array Value) (R : Rq) (bR : RqBd 1048576 R) (T : ByteArray) (hT : T.size ≤ 1048576) (w : World) (hm : Ml w) (hR : RReq w (.agg rs) R) :
    Calls Tryz.prog 7 #[.agg rs, .string T] w fun e w' => e = .returned (.bool true) ∧ Below w.heap.size w w' := by
  have HM := Lib.hid hm
  have HAW := Lib.hid (fun wx hx => awake18_c wx hx)
  obtain ⟨rs', er, s38, _, _, _, _, _, hR⟩ := hR.row
  injection er with er
  subst er
  have HSM := Lib.hid (fun (wx : World) (h : Below w.heap.size w wx) => small_c rs R wx (hR.below h (Nat.le_refl _)) bR.2.2.2.1 bR.2.2.2.2.1)
  have HBG := Lib.hid (fun (wx : World) (h : Below w.heap.size w wx) hx => begin_c rs T R wx hx (hR.below h (Nat.le_refl _)) bR.rqB (by omega))
  have hbd := fun h => beginS_dlg (r := R) (t := us T) h
  obtain ⟨BD, hBD⟩ : ∃ x, x = beginS R (us T) := ⟨_, rfl⟩
  rw [← hBD] at HBG hbd
  clear hBD
  obtain ⟨d, ec⟩ := BD
  dsimp only at HBG hbd
  obtain ⟨SB, hSB⟩ : ∃ x, x = smallR R := ⟨_, rfl⟩
  rw [← hSB] at HSM
  have hB0 : Below w.heap.size w (w.alloc (.cells rs 32)) := (Below.refl _ _).alloc (Nat.le_refl _) _
  have br : Blk (w.alloc (.cells rs 32)) w.heap.size 32 rs := Blk.new w 32 rs
  obtain ⟨w0, hw0⟩ : ∃ w0, w0 = (w.alloc (.cells rs 32)) := ⟨_, rfl⟩
  rw [← hw0] at hB0 br
  have HW0 := Lib.hid hw0
  have HRR := Lib.hid hR
  have HBR := Lib.hid bR
  clear hw0 hSB hm hR bR
  go_enter Tryz.func7, Tryz.ntmps7
  go_upto_region 1 with fail
  rw [← HW0.out]
  clear HW0
  go_wp2_with (with_reducible refine holdLoad 32 rfl ?_)
  unfold Hold
  refine wpList_loadB (vs := rs) rfl rfl rfl Tryz.underlying32 (by rw [s38]; rfl) br (whole _) ?_
  go_wp2_with (first | (go_at_call 10; refine (HBG.out _ hB0 (HM.out.below hB0)).mono ?_; rintro e y1 ⟨ds, rfl, hD, hC⟩) | (with_reducible refine holdStore 34 rfl ?_))
  unfold Hold
  obtain ⟨t', et, t26, tone, _, _, hD⟩ := hD.row
  injection et with et
  subst et
  refine wpList_storeNew (vs := ds) rfl rfl rfl rfl (by rw [t26]; rfl) (by rw [t26]; rfl) tone ?_
  replace hB0 := (hB0.trans (hC.mono hB0.size)).alloc (hB0.trans (hC.mono hB0.size)).size (.cells ds 34)
  replace br := (br.call hC).alloc (.cells ds 34)
  have bd := Blk.new y1 34 ds
  replace hD := hD.below ((Below.refl y1.heap.size y1).alloc (Nat.le_refl _) (.cells ds 34)) (Nat.le_refl _)
  obtain ⟨gd, hgx⟩ : ∃ zz, zz = y1.heap.size := ⟨_, rfl⟩
  obtain ⟨w3, hwx⟩ : ∃ zz, zz = y1.alloc (.cells ds 34) := ⟨_, rfl⟩
  rw [← hwx] at hB0 bd br hD
  rw [← hwx]
  rw [← hgx] at bd
  rw [← hgx]
  clear hwx hgx hC HBG tone
  by_cases he : ec = 0
  case neg =>
    have t1 : (ec != 0) = true := by simpa using he
    clear he hbd
    go_wp2_with (go_at_call 12; refine (HAW.out _ (HM.out.below hB0)).mono ?_; rintro e wz ⟨rfl, hCz⟩)
    go_ret
    exact ⟨rfl, hB0.trans (hCz.mono hB0.size)⟩
  case pos =>
    obtain ⟨c, hc, hd⟩ := hbd he
    subst he
    go_wp2_with (with_reducible refine holdLoad 32 rfl ?_)
    unfold Hold
    refine wpList_loadG (vs := rs) (by rfl) rfl rfl Tryz.underlying32 (by rw [s38]; rfl) br ?_
    cases SB with
    | false =>
      go_wp2_with (first | (go_at_call 11; refine (HSM.out _ hB0).mono ?_; rintro e w1 ⟨rfl, hC⟩; replace hB0 := hB0.trans (hC.mono hB0.size)) | (go_at_call 12; refine (HAW.out _ (HM.out.below hB0)).mono ?_; rintro e wz ⟨rfl, hCz⟩))
      go_ret
      exact ⟨rfl, hB0.trans (hCz.mono hB0.size)⟩
    | true =>
      go_upto_region 4 with (go_at_call 11; refine (HSM.out _ hB0).mono ?_; rintro e w4 ⟨rfl, hC⟩)
      replace hB0 := hB0.trans (hC.mono hB0.size)
      replace bd := bd.call hC
      replace br := br.call hC
      replace hD := hD.below hC (Nat.le_refl _)
      replace br := br
      obtain ⟨e1, y1, e2, y2, e3, y3, e4, y4, e5, y5, e6, y6, e7, y7, e8, y8, e9, y9, eds, _, _, _, _, _, _, h7, h8, h9⟩ := hD.lit
      injection eds with eds
      have hds : d.routes = R.routes := by rw [hd]
      have hdt : d.tgt = c.uri := by rw [hd]
      obtain ⟨i0, i1, i2, i3, i4, i5, i6, i7, i8, i9, i10, i11, i12, i13, i14, i15, f1, g1, f2, g2, f3, g3, f4, g4, f5, g5, f6, g6, f7, g7, f8, g8, ers, _, _, _, _, _, _, _, j8⟩ := HRR.out.lit
      injection ers with ers
      have r33 : w4.cell? ⟨w.heap.size, 33, none⟩ = some (.slice f8 R.routes.length g8) := (boxedCell br 33).trans (by rw [ers]; rfl)
      have c17 : w4.cell? ⟨gd, 17, none⟩ = some (.string (bs d.tgt.scheme)) := (boxedCell bd 17).trans (by rw [eds]; rfl)
      have c18 : w4.cell? ⟨gd, 18, none⟩ = some (.string (bs d.tgt.user)) := (boxedCell bd 18).trans (by rw [eds]; rfl)
      have c19 : w4.cell? ⟨gd, 19, none⟩ = some (.string (bs d.tgt.host)) := (boxedCell bd 19).trans (by rw [eds]; rfl)
      have c20 : w4.cell? ⟨gd, 20, none⟩ = some (.int .i64 d.tgt.port) := (boxedCell bd 20).trans (by rw [eds]; rfl)
      have c21 : w4.cell? ⟨gd, 21, none⟩ = some (.slice e7 d.tgt.ps.length y7) := (boxedCell bd 21).trans (by rw [eds]; rfl)
      have c22 : w4.cell? ⟨gd, 22, none⟩ = some (.slice e8 d.tgt.hs.length y8) := (boxedCell bd 22).trans (by rw [eds]; rfl)
      have HBC := Lib.hid (show c.uri.host.length ≤ 4294967280 ∧ -9223372036854775808 ≤ c.uri.port ∧ c.uri.port ≤ 9223372036854775807 from by
        have := HBR.out.2.2.1 c (by rw [hc]; exact List.mem_singleton.2 rfl)
        exact ⟨by have := this.1.2.2.2; omega, this.2.1.1, this.2.1.2⟩)
      have HBL := Lib.hid (show ∀ x ∈ d.routes, x.length ≤ 4294967280 from fun x hx => by rw [hds] at hx; have := HBR.out.2.2.2.1 x hx; omega)
      have HWH := Lib.hid (fun (wx : World) hx (h : Below w4.heap.size w4 wx) => whereD_c (.agg ds) d wx hx (hD.below h (Nat.le_refl _)) (by rw [hdt]; exact HBC.out.1) (by rw [hdt]; exact HBC.out.2.1) (by rw [hdt]; exact HBC.out.2.2) HBL.out (fun x _ h => route_bd x h))
      have HBD := Lib.hid bd
      have HZB := Lib.hid hB0
      have HDS := Lib.hid hds
      clear eds ers h7 h8 HSM hd hds hdt hc
      have hBa := hB0.alloc hB0.size (.cells #[.string (bs d.tgt.scheme), .string (bs d.tgt.user), .string (bs d.tgt.host), .int .i64 d.tgt.port, .slice e7 d.tgt.ps.length y7, .slice e8 d.tgt.hs.length y8] 24)
      have bu := Blk.new w4 24 #[.string (bs d.tgt.scheme), .string (bs d.tgt.user), .string (bs d.tgt.host), .int .i64 d.tgt.port, .slice e7 d.tgt.ps.length y7, .slice e8 d.tgt.hs.length y8]
      have bda := bd.alloc (.cells #[.string (bs d.tgt.scheme), .string (bs d.tgt.user), .string (bs d.tgt.host), .int .i64 d.tgt.port, .slice e7 d.tgt.ps.length y7, .slice e8 d.tgt.hs.length y8] 24)
      have hK := (Below.refl w4.heap.size w4).alloc (Nat.le_refl _) (.cells #[.string (bs d.tgt.scheme), .string (bs d.tgt.user), .string (bs d.tgt.host), .int .i64 d.tgt.port, .slice e7 d.tgt.ps.length y7, .slice e8 d.tgt.hs.length y8] 24)
      have r33a : (w4.alloc (.cells #[.string (bs d.tgt.scheme), .string (bs d.tgt.user), .string (bs d.tgt.host), .int .i64 d.tgt.port, .slice e7 d.tgt.ps.length y7, .slice e8 d.tgt.hs.length y8] 24)).cell? ⟨w.heap.size, 33, none⟩ = some (.slice f8 R.routes.length g8) := by rw [← r33]; exact World.cell?_of_block (w := w4) (a := ⟨w.heap.size, 33, none⟩) (hK.block _ br.lt)
      go_upto_region 5 with fail
      obtain ⟨gu, hgx⟩ : ∃ zz, zz = w4.heap.size := ⟨_, rfl⟩
      obtain ⟨w5, hwx⟩ : ∃ zz, zz = w4.alloc (.cells #[.string (bs d.tgt.scheme), .string (bs d.tgt.user), .string (bs d.tgt.host), .int .i64 d.tgt.port, .slice e7 d.tgt.ps.length y7, .slice e8 d.tgt.hs.length y8] 24) := ⟨_, rfl⟩
      rw [← hwx] at hBa bu bda hK r33a
      rw [← hwx]
      have HGU := Lib.hid hgx
      rw [← hgx] at bu
      rw [← hgx]
      clear hwx hgx c17 c18 c19 c20 c21 c22 bd r33 hB0
      have HJ8 := Lib.hid j8
      clear j8
      cases hrt : R.routes with
      | nil =>
        have hwd : whereD d = byU d.tgt := by unfold whereD; rw [HDS.out, hrt]
        rw [hrt] at r33a
        obtain ⟨Wt, hWt⟩ : ∃ x, x = bs (whereD d) := ⟨_, rfl⟩
        obtain ⟨Hb, hHb⟩ : ∃ x, x = bs d.tgt.host := ⟨_, rfl⟩
        obtain ⟨s0, s1, s2, s3⟩ := by_facts d.tgt Wt Hb (by rw [hWt, hwd]) hHb
        rw [← hWt] at HWH
        rw [← hHb] at bu
        obtain ⟨pt, hpt⟩ : ∃ x, x = d.tgt.port := ⟨_, rfl⟩
        rw [← hpt] at bu s0 s3
        clear hWt hHb hpt hwd hrt
        obtain ⟨q0, q1, q2, q3, q4, q5⟩ := blk_f6 bu
        have hBt := hBa
        have hKt := hK
        have bdt := bda
        go_wp2_with (with_reducible refine holdLoad 34 rfl ?_)
        unfold Hold
        refine wpList_loadB (vs := ds) rfl rfl rfl Tryz.underlying34 (by rw [t26]; rfl) bdt (whole _) ?_
        go_upto_region 11 with (go_at_call 27; refine (HWH.out _ (HM.out.below hBt) hKt).mono ?_; rintro e y5 ⟨rfl, hC⟩)
        replace hBt := hBt.trans (hC.mono hBt.size)
        replace bu := bu.call hC
        clear q0 q1 q2 q3 q4 q5 hC
        obtain ⟨q0, q1, q2, q3, q4, q5⟩ := blk_f6 bu
        go_upto_region 12 with fail
        have f1 : decide ((Wt.size : Int) ≤ (Hb.size : Int)) = false := by simp; omega
        have f2 : decide (Wt.size ≤ Hb.size) = false := by simp; omega
        have k0 : (0 : Int) ≤ (Hb.size : Int) := by omega
        have k1 : (Hb.size : Int) ≤ (Wt.size : Int) := by omega
        have k2 : (Hb.size : Int) < (Wt.size : Int) := by omega
        have hlt : Hb.size < Wt.size := by omega
        have s2' := s2 hlt
        have k4 : ((Wt[Hb.size]'hlt).toNat : Int) = 58 := by rw [s2']; rfl
        clear s2'
        clear s2 s0
        refine wp_region_held_drew (S := fun wx => wx.cell? ⟨gu, 2, none⟩ = some (.string Hb)) (by kernel_rfl) q2 (fun hHeld => ?_)
        refine wpAnyH_take (i := 0) (v := ?_) rfl (by kernel_rfl) (by kernel_rfl) (by kernel_rfl) (fun _ _ _ h => h) (Or.inl ⟨by rfl, ?_⟩) (by assumption) ?_
        rotate_left
        focus (intro _ hSw; (try dsimp only at hSw); go_simp; try (with_reducible rfl))
        try simp only [Act.put, List.getElem_toArray, List.getElem_cons_zero, List.getElem_cons_succ, List.setIfInBounds_toArray, List.set_cons_zero, List.set_cons_succ]
        refine wpAnyH_take (i := 1) (v := ?_) rfl (by kernel_rfl) (by kernel_rfl) (by kernel_rfl) (fun _ _ _ h => h) (Or.inl ⟨by rfl, ?_⟩) (by assumption) ?_
        rotate_left
        focus (intro _ hSw; (try dsimp only at hSw); go_simp; try (with_reducible rfl))
        try simp only [Act.put, List.getElem_toArray, List.getElem_cons_zero, List.getElem_cons_succ, List.setIfInBounds_toArray, List.set_cons_zero, List.set_cons_succ]
        refine wpAnyH_take (i := 2) (v := ?_) rfl (by kernel_rfl) (by kernel_rfl) (by kernel_rfl) (fun _ _ _ h => h) (Or.inl ⟨by rfl, ?_⟩) (by assumption) ?_
        rotate_left
        focus (intro _ hSw; (try dsimp only at hSw); go_simp; try (with_reducible rfl))
        try simp only [Act.put, List.getElem_toArray, List.getElem_cons_zero, List.getElem_cons_succ, List.setIfInBounds_toArray, List.set_cons_zero, List.set_cons_succ]
        refine wpAnyH_take (i := 3) (v := ?_) rfl (by kernel_rfl) (by kernel_rfl) (by kernel_rfl) (fun _ _ _ h => h) (Or.inl ⟨by rfl, ?_⟩) (by assumption) ?_
        rotate_left
        focus (intro _ hSw; (try dsimp only at hSw); go_simp; try (with_reducible rfl))
        try simp only [Act.put, List.getElem_toArray, List.getElem_cons_zero, List.getElem_cons_succ, List.setIfInBounds_toArray, List.set_cons_zero, List.set_cons_succ]
        try simp only [f2]
        try go_simp
        refine wpAnyH_take (i := 4) (v := ?_) rfl (by kernel_rfl) (by kernel_rfl) (by kernel_rfl) (fun _ _ _ h => h) (Or.inl ⟨by rfl, ?_⟩) (by assumption) ?_
        rotate_left
        focus (intro _ hSw; (try dsimp only at hSw); go_simp; try (with_reducible rfl))
        try simp only [Act.put, List.getElem_toArray, List.getElem_cons_zero, List.getElem_cons_succ, List.setIfInBounds_toArray, List.set_cons_zero, List.set_cons_succ]
        try simp only [f2]
        try go_simp
        refine wpAnyH_take (i := 5) (v := ?_) rfl (by kernel_rfl) (by kernel_rfl) (by kernel_rfl) (fun _ _ _ h => h) (Or.inl ⟨by rfl, ?_⟩) (by assumption) ?_
        rotate_left
        focus (intro _ hSw; (try dsimp only at hSw); go_simp; try (with_reducible rfl))
        try simp only [Act.put, List.getElem_toArray, List.getElem_cons_zero, List.getElem_cons_succ, List.setIfInBounds_toArray, List.set_cons_zero, List.set_cons_succ]
        refine wpAnyH_take (i := 6) (v := ?_) rfl (by kernel_rfl) (by kernel_rfl) (by kernel_rfl) (fun _ _ _ h => h) (Or.inl ⟨by rfl, ?_⟩) (by assumption) ?_
        rotate_left
        focus (intro _ hSw; (try dsimp only at hSw); go_simp; try (with_reducible rfl))
        try simp only [Act.put, List.getElem_toArray, List.getElem_cons_zero, List.getElem_cons_succ, List.setIfInBounds_toArray, List.set_cons_zero, List.set_cons_succ]
        refine wpAnyH_take (i := 7) (v := ?_) rfl (by kernel_rfl) (by kernel_rfl) (by kernel_rfl) (fun _ _ _ h => h) (Or.inl ⟨by rfl, ?_⟩) (by assumption) ?_
        rotate_left
        focus (intro _ hSw; (try dsimp only at hSw); go_simp; try (with_reducible rfl))
        try simp only [Act.put, List.getElem_toArray, List.getElem_cons_zero, List.getElem_cons_succ, List.setIfInBounds_toArray, List.set_cons_zero, List.set_cons_succ]
        refine wpAnyH_take (i := 8) (v := ?_) rfl (by kernel_rfl) (by kernel_rfl) (by kernel_rfl) (fun _ _ _ h => h) (Or.inl ⟨by rfl, ?_⟩) (by assumption) ?_
        rotate_left
        focus (intro _ hSw; (try dsimp only at hSw); go_simp; try (with_reducible rfl))
        try simp only [Act.put, List.getElem_toArray, List.getElem_cons_zero, List.getElem_cons_succ, List.setIfInBounds_toArray, List.set_cons_zero, List.set_cons_succ]
        refine wpAnyH_take (i := 9) (v := ?_) rfl (by kernel_rfl) (by kernel_rfl) (by kernel_rfl) (fun _ _ _ h => h) (Or.inl ⟨by rfl, ?_⟩) (by assumption) ?_
        rotate_left
        focus (intro _ hSw; (try dsimp only at hSw); go_simp; try (with_reducible rfl))
        try simp only [Act.put, List.getElem_toArray, List.getElem_cons_zero, List.getElem_cons_succ, List.setIfInBounds_toArray, List.set_cons_zero, List.set_cons_succ]
        refine wpAnyH_take (i := 10) (v := ?_) rfl (by kernel_rfl) (by kernel_rfl) (by kernel_rfl) (fun _ _ _ h => h) (Or.inl ⟨by rfl, ?_⟩) (by assumption) ?_
        rotate_left
        focus (intro _ hSw; (try dsimp only at hSw); go_simp; try (with_reducible rfl))
        try simp only [Act.put, List.getElem_toArray, List.getElem_cons_zero, List.getElem_cons_succ, List.setIfInBounds_toArray, List.set_cons_zero, List.set_cons_succ]
        try simp only [f2]
        try go_simp
        refine wpAnyH_take (i := 11) (v := ?_) rfl (by kernel_rfl) (by kernel_rfl) (by kernel_rfl) (fun _ _ _ h => h) (Or.inl ⟨by rfl, ?_⟩) (by assumption) ?_
        rotate_left
        focus (intro _ hSw; (try dsimp only at hSw); go_simp; try (with_reducible rfl))
        try simp only [Act.put, List.getElem_toArray, List.getElem_cons_zero, List.getElem_cons_succ, List.setIfInBounds_toArray, List.set_cons_zero, List.set_cons_succ]
        try simp only [f2]
        try go_simp
        refine wpAnyH_take (i := 12) (v := ?_) rfl (by kernel_rfl) (by kernel_rfl) (by kernel_rfl) (fun _ _ _ h => h) (Or.inl ⟨by rfl, ?_⟩) (by assumption) ?_
        rotate_left
        focus (intro _ hSw; (try dsimp only at hSw); go_simp; try (with_reducible rfl))
        try simp only [Act.put, List.getElem_toArray, List.getElem_cons_zero, List.getElem_cons_succ, List.setIfInBounds_toArray, List.set_cons_zero, List.set_cons_succ]
        try simp only [f2]
        try go_simp
        refine wpAnyH_take (i := 13) (v := ?_) rfl (by kernel_rfl) (by kernel_rfl) (by kernel_rfl) (fun _ _ _ h => h) (Or.inl ⟨by rfl, ?_⟩) (by assumption) ?_
        rotate_left
        focus (intro _ hSw; (try dsimp only at hSw); go_simp; try (with_reducible rfl))
        try simp only [Act.put, List.getElem_toArray, List.getElem_cons_zero, List.getElem_cons_succ, List.setIfInBounds_toArray, List.set_cons_zero, List.set_cons_succ]
        refine wpAnyH_take (i := 14) (v := ?_) rfl (by kernel_rfl) (by kernel_rfl) (by kernel_rfl) (fun _ _ _ h => h) (Or.inl ⟨by rfl, ?_⟩) (by assumption) ?_
        rotate_left
        focus (intro _ hSw; (try dsimp only at hSw); go_simp; try (with_reducible rfl))
        try simp only [Act.put, List.getElem_toArray, List.getElem_cons_zero, List.getElem_cons_succ, List.setIfInBounds_toArray, List.set_cons_zero, List.set_cons_succ]
        refine wpAnyH_take (i := 15) (v := ?_) rfl (by kernel_rfl) (by kernel_rfl) (by kernel_rfl) (fun _ _ _ h => h) (Or.inl ⟨by rfl, ?_⟩) (by assumption) ?_
        rotate_left
        focus (intro _ hSw; (try dsimp only at hSw); go_simp; try (with_reducible rfl))
        try simp only [Act.put, List.getElem_toArray, List.getElem_cons_zero, List.getElem_cons_succ, List.setIfInBounds_toArray, List.set_cons_zero, List.set_cons_succ]
        try simp only [f2]
        try go_simp
        refine wpAnyH_take (i := 16) (v := ?_) rfl (by kernel_rfl) (by kernel_rfl) (by kernel_rfl) (fun _ _ _ h => h) (Or.inl ⟨by rfl, ?_⟩) (by assumption) ?_
        rotate_left
        focus (intro _ hSw; (try dsimp only at hSw); go_simp; try (with_reducible rfl))
        try simp only [Act.put, List.getElem_toArray, List.getElem_cons_zero, List.getElem_cons_succ, List.setIfInBounds_toArray, List.set_cons_zero, List.set_cons_succ]
        try simp only [f2]
        try go_simp
        refine wpAnyH_take (i := 17) (v := ?_) rfl (by kernel_rfl) (by kernel_rfl) (by kernel_rfl) (fun _ _ _ h => h) (Or.inl ⟨by rfl, ?_⟩) (by assumption) ?_
        rotate_left
        focus (intro _ hSw; (try dsimp only at hSw); go_simp; try (with_reducible rfl))
        try simp only [Act.put, List.getElem_toArray, List.getElem_cons_zero, List.getElem_cons_succ, List.setIfInBounds_toArray, List.set_cons_zero, List.set_cons_succ]
        try simp only [f2]
        try go_simp
        refine wpAnyH_done (by kernel_rfl) ?_ _
        have hBt := zDrew hBt
        replace q2 : (World.drew y5).cell? ⟨gu, 2, none⟩ = some (.string Hb) := q2
        replace q3 : (World.drew y5).cell? ⟨gu, 3, none⟩ = some (.int .i64 pt) := q3
        clear f1 f2 s1 k4 bdt hKt bu q0 q1 q4 q5
        obtain ⟨y6, hy6⟩ : ∃ zz, zz = World.drew y5 := ⟨_, rfl⟩
        rw [← hy6] at hBt q2 q3 hHeld ⊢
        clear hy6
        clear hHeld
        by_cases p0 : pt = 0
        · subst p0
          have s4 : ((Wt.extract Hb.size Wt.size).toList == [58, 53, 48, 54, 48]) = true := by rw [s3 (.inl rfl)]; decide +kernel
          clear s3
          go_wp2_with (go_at_call 12; refine (HAW.out _ (HM.out.below hBt)).mono ?_; rintro e wz ⟨rfl, hCz⟩)
          go_ret
          exact ⟨rfl, hBt.trans (hCz.mono hBt.size)⟩
        by_cases p1 : pt = 5060
        · subst p1
          have s4 : ((Wt.extract Hb.size Wt.size).toList == [58, 53, 48, 54, 48]) = true := by rw [s3 (.inr rfl)]; decide +kernel
          clear s3
          go_wp2_with (go_at_call 12; refine (HAW.out _ (HM.out.below hBt)).mono ?_; rintro e wz ⟨rfl, hCz⟩)
          go_ret
          exact ⟨rfl, hBt.trans (hCz.mono hBt.size)⟩
        have t0 : (pt != 0) = true := by simpa using p0
        have t1 : (pt != 5060) = true := by simpa using p1
        clear s3 p0 p1
        go_wp2_with (go_at_call 12; refine (HAW.out _ (HM.out.below hBt)).mono ?_; rintro e wz ⟨rfl, hCz⟩)
        go_ret
        exact ⟨rfl, hBt.trans (hCz.mono hBt.size)⟩
      | cons x rr =>
        have hxl : x.length ≤ 4294967280 := HBL.out x (by rw [HDS.out, hrt]; exact List.mem_cons_self ..)
        have HWX := Lib.hid (show whereD d = if (parseA x).2 = 0 then byU (parseA x).1.uri else [] from by unfold whereD; rw [HDS.out, hrt])
        obtain ⟨ao9, cp9, e9, _, c9⟩ := HJ8.out.form
        rw [hrt] at c9 e9 r33a
        injection e9 with e9 _ e10
        subst e9 e10
        obtain ⟨bx, off, eb, hbx, hcx⟩ := c9 (by simp)
        have x0 := hcx 0 (by simp)
        rw [Nat.add_zero] at x0
        subst eb
        clear hcx
        have x0 : w5.cell? ⟨bx, off, none⟩ = some (.string (bs x)) := by
          have e := World.cell?_of_block (w := w) (w' := w5) (a := ⟨bx, off, none⟩) (hBa.block bx hbx)
          rw [e]; exact x0
        have k9 : (0 : Int) < ((x :: rr).length : Int) := by simp
        have HP := Lib.hid (fun wx hx => parseA_c (bs x) (by rw [size_bs]; exact hxl) wx hx)
        rw [us_bs] at HP
        obtain ⟨PA, hPA⟩ : ∃ z, z = parseA x := ⟨_, rfl⟩
        have hpb := route_bd x
        rw [← hPA] at HP HWX hpb
        clear hPA hxl
        obtain ⟨ra, rc⟩ := PA
        unfold AdrPost at HP
        unfold sv at HP
        dsimp only at HP HWX hpb
        have AP := True.intro
        by_cases h0 : rc = 0
        case neg =>
          have t1 : (rc != 0) = true := by simpa using h0
          have HW0 := Lib.hid (show bs (whereD d) = ⟨#[]⟩ from by rw [HWX.out, if_neg h0]; rfl)
          rw [HW0.out] at HWH
          clear h0 hpb
          go_wp2_with (first | (go_at_call 18; refine (HP.out _ (HM.out.below hBa)).mono ?_; rintro e y4 ⟨u1, u2, u3, rfl, p1, p2, p3, _, _, _, hC4⟩; obtain ⟨a1, b1, rfl⟩ := p1.form'; obtain ⟨a2, b2, rfl⟩ := p2.form'; obtain ⟨a3, b3, rfl⟩ := p3.form'; clear p1 p2 p3; have hBa2 := (hBa.trans (hC4.mono hBa.size)).alloc (hBa.trans (hC4.mono hBa.size)).size (.cells #[.string (bs ra.disp), .string (bs ra.uri.scheme), .string (bs ra.uri.user), .string (bs ra.uri.host), .int .i64 ra.uri.port, .slice a1 ra.uri.ps.length b1, .slice a2 ra.uri.hs.length b2, .slice a3 ra.ps.length b3] 26); have hKa2 := (hK.trans (hC4.mono hK.size)).alloc (hK.trans (hC4.mono hK.size)).size (.cells #[.string (bs ra.disp), .string (bs ra.uri.scheme), .string (bs ra.uri.user), .string (bs ra.uri.host), .int .i64 ra.uri.port, .slice a1 ra.uri.ps.length b1, .slice a2 ra.uri.hs.length b2, .slice a3 ra.ps.length b3] 26); have bda2 := (bda.call hC4).alloc (.cells #[.string (bs ra.disp), .string (bs ra.uri.scheme), .string (bs ra.uri.user), .string (bs ra.uri.host), .int .i64 ra.uri.port, .slice a1 ra.uri.ps.length b1, .slice a2 ra.uri.hs.length b2, .slice a3 ra.ps.length b3] 26); have bu2 := (bu.call hC4).alloc (.cells #[.string (bs ra.disp), .string (bs ra.uri.scheme), .string (bs ra.uri.user), .string (bs ra.uri.host), .int .i64 ra.uri.port, .slice a1 ra.uri.ps.length b1, .slice a2 ra.uri.hs.length b2, .slice a3 ra.ps.length b3] 26); have ba := Blk.new y4 26 #[.string (bs ra.disp), .string (bs ra.uri.scheme), .string (bs ra.uri.user), .string (bs ra.uri.host), .int .i64 ra.uri.port, .slice a1 ra.uri.ps.length b1, .slice a2 ra.uri.hs.length b2, .slice a3 ra.ps.length b3]) | (with_reducible refine holdLoad 34 rfl ?_))
          unfold Hold
          refine wpList_loadB (vs := ds) rfl rfl rfl Tryz.underlying34 (by rw [t26]; rfl) bda2 (whole _) ?_
          go_wp2_with (first | (go_at_call 27; refine (HWH.out _ (HM.out.below hBa2) hKa2).mono ?_; rintro e y5 ⟨rfl, hC⟩; have hBt := hBa2.trans (hC.mono hBa2.size)) | (go_at_call 12; refine (HAW.out _ (HM.out.below hBt)).mono ?_; rintro e wz ⟨rfl, hCz⟩))
          go_ret
          exact ⟨rfl, hBt.trans (hCz.mono hBt.size)⟩
        case pos =>
          have hwd : whereD d = byU ra.uri := by rw [HWX.out, if_pos h0]
          subst h0
          obtain ⟨Wt, hWt⟩ : ∃ x, x = bs (whereD d) := ⟨_, rfl⟩
          obtain ⟨Hb, hHb⟩ : ∃ x, x = bs ra.uri.host := ⟨_, rfl⟩
          obtain ⟨s0, s1, s2, s3⟩ := by_facts ra.uri Wt Hb (by rw [hWt, hwd]) hHb
          rw [← hWt] at HWH
          rw [← hHb] at HP
          obtain ⟨pt, hpt⟩ : ∃ x, x = ra.uri.port := ⟨_, rfl⟩
          rw [← hpt] at HP s0 s3
          clear hWt hHb hpt hwd hpb HWX
          go_upto_region 9 with (go_at_call 18; refine (HP.out _ (HM.out.below hBa)).mono ?_; rintro e y4 ⟨u1, u2, u3, rfl, p1, p2, p3, _, _, _, hC4⟩; obtain ⟨a1, b1, rfl⟩ := p1.form'; obtain ⟨a2, b2, rfl⟩ := p2.form'; obtain ⟨a3, b3, rfl⟩ := p3.form'; clear p1 p2 p3; have hBa2 := (hBa.trans (hC4.mono hBa.size)).alloc (hBa.trans (hC4.mono hBa.size)).size (.cells #[.string (bs ra.disp), .string (bs ra.uri.scheme), .string (bs ra.uri.user), .string Hb, .int .i64 pt, .slice a1 ra.uri.ps.length b1, .slice a2 ra.uri.hs.length b2, .slice a3 ra.ps.length b3] 26); have hKa2 := (hK.trans (hC4.mono hK.size)).alloc (hK.trans (hC4.mono hK.size)).size (.cells #[.string (bs ra.disp), .string (bs ra.uri.scheme), .string (bs ra.uri.user), .string Hb, .int .i64 pt, .slice a1 ra.uri.ps.length b1, .slice a2 ra.uri.hs.length b2, .slice a3 ra.ps.length b3] 26); have bda2 := (bda.call hC4).alloc (.cells #[.string (bs ra.disp), .string (bs ra.uri.scheme), .string (bs ra.uri.user), .string Hb, .int .i64 pt, .slice a1 ra.uri.ps.length b1, .slice a2 ra.uri.hs.length b2, .slice a3 ra.ps.length b3] 26); have bu2 := (bu.call hC4).alloc (.cells #[.string (bs ra.disp), .string (bs ra.uri.scheme), .string (bs ra.uri.user), .string Hb, .int .i64 pt, .slice a1 ra.uri.ps.length b1, .slice a2 ra.uri.hs.length b2, .slice a3 ra.ps.length b3] 26); have ba := Blk.new y4 26 #[.string (bs ra.disp), .string (bs ra.uri.scheme), .string (bs ra.uri.user), .string Hb, .int .i64 pt, .slice a1 ra.uri.ps.length b1, .slice a2 ra.uri.hs.length b2, .slice a3 ra.ps.length b3])
          have hlg : gu < y4.heap.size := (bu.call hC4).lt
          obtain ⟨w7, hwx⟩ : ∃ zz, zz = y4.alloc (.cells #[.string (bs ra.disp), .string (bs ra.uri.scheme), .string (bs ra.uri.user), .string Hb, .int .i64 pt, .slice a1 ra.uri.ps.length b1, .slice a2 ra.uri.hs.length b2, .slice a3 ra.ps.length b3] 26) := ⟨_, rfl⟩
          rw [← hwx] at hBa2 hKa2 bda2 bu2 ba ⊢
          clear hwx
          obtain ⟨m0, m1, m2, m3, m4, m5, m6, m7, _, _, _, _, _, _, _, _, zR⟩ := blk_h8 ba
          go_wp2_with (with_reducible refine holdStore 24 rfl ?_)
          unfold Hold
          refine wpList_storeB (vs := #[.string (bs ra.uri.scheme), .string (bs ra.uri.user), .string Hb, .int .i64 pt, .slice a1 ra.uri.ps.length b1, .slice a2 ra.uri.hs.length b2]) rfl rfl rfl rfl (by kernel_rfl) bu2 (Nat.le_of_ble_eq_true rfl) (by kernel_rfl) rfl ?_
          intro w8 bu8 hfar8 hsz8 hbel8
          have bu8 : Blk w8 gu 24 #[.string (bs ra.uri.scheme), .string (bs ra.uri.user), .string Hb, .int .i64 pt, .slice a1 ra.uri.ps.length b1, .slice a2 ra.uri.hs.length b2] := by
            have h := bu8
            rw [show setAll #[.string (bs d.tgt.scheme), .string (bs d.tgt.user), .string (bs d.tgt.host), .int .i64 d.tgt.port, .slice e7 d.tgt.ps.length y7, .slice e8 d.tgt.hs.length y8] 0 #[.string (bs ra.uri.scheme), .string (bs ra.uri.user), .string Hb, .int .i64 pt, .slice a1 ra.uri.ps.length b1, .slice a2 ra.uri.hs.length b2].toList = #[.string (bs ra.uri.scheme), .string (bs ra.uri.user), .string Hb, .int .i64 pt, .slice a1 ra.uri.ps.length b1, .slice a2 ra.uri.hs.length b2] from by kernel_rfl] at h
            exact h
          have hgd : gd ≠ gu := Nat.ne_of_lt (by rw [HGU.out]; exact HBD.out.lt)
          have hB8 := hBa2.trans (hbel8 _ (by rw [HGU.out]; exact HZB.out.size))
          have hK8 := hKa2.trans (hbel8 _ (Nat.le_of_eq HGU.out.symm))
          have bd8 : Blk w8 gd 34 ds := (hfar8 _ hgd).trans bda2
          clear m0 m1 m2 m3 m4 m5 m6 m7 zR ba bu2 bda2 hBa2 hKa2 bu hBa hK bda hC4 x0 k9
          have bu := bu8
          obtain ⟨q0, q1, q2, q3, q4, q5⟩ := blk_f6 bu
          go_upto_region 10 with fail
          have hBt := hB8
          have hKt := hK8
          have bdt := bd8
          go_wp2_with (with_reducible refine holdLoad 34 rfl ?_)
          unfold Hold
          refine wpList_loadB (vs := ds) rfl rfl rfl Tryz.underlying34 (by rw [t26]; rfl) bdt (whole _) ?_
          go_upto_region 11 with (go_at_call 27; refine (HWH.out _ (HM.out.below hBt) hKt).mono ?_; rintro e y5 ⟨rfl, hC⟩)
          replace hBt := hBt.trans (hC.mono hBt.size)
          replace bu := bu.call hC
          clear q0 q1 q2 q3 q4 q5 hC
          obtain ⟨q0, q1, q2, q3, q4, q5⟩ := blk_f6 bu
          go_upto_region 12 with fail
          have f1 : decide ((Wt.size : Int) ≤ (Hb.size : Int)) = false := by simp; omega
          have f2 : decide (Wt.size ≤ Hb.size) = false := by simp; omega
          have k0 : (0 : Int) ≤ (Hb.size : Int) := by omega
          have k1 : (Hb.size : Int) ≤ (Wt.size : Int) := by omega
          have k2 : (Hb.size : Int) < (Wt.size : Int) := by omega
          have hlt : Hb.size < Wt.size := by omega
          have s2' := s2 hlt
          have k4 : ((Wt[Hb.size]'hlt).toNat : Int) = 58 := by rw [s2']; rfl
          clear s2'
          clear s2 s0
          refine wp_region_held_drew (S := fun wx => wx.cell? ⟨gu, 2, none⟩ = some (.string Hb)) (by kernel_rfl) q2 (fun hHeld => ?_)
          refine wpAnyH_take (i := 0) (v := ?_) rfl (by kernel_rfl) (by kernel_rfl) (by kernel_rfl) (fun _ _ _ h => h) (Or.inl ⟨by rfl, ?_⟩) (by assumption) ?_
          rotate_left
          focus (intro _ hSw; (try dsimp only at hSw); go_simp; try (with_reducible rfl))
          try simp only [Act.put, List.getElem_toArray, List.getElem_cons_zero, List.getElem_cons_succ, List.setIfInBounds_toArray, List.set_cons_zero, List.set_cons_succ]
          refine wpAnyH_take (i := 1) (v := ?_) rfl (by kernel_rfl) (by kernel_rfl) (by kernel_rfl) (fun _ _ _ h => h) (Or.inl ⟨by rfl, ?_⟩) (by assumption) ?_
          rotate_left
          focus (intro _ hSw; (try dsimp only at hSw); go_simp; try (with_reducible rfl))
          try simp only [Act.put, List.getElem_toArray, List.getElem_cons_zero, List.getElem_cons_succ, List.setIfInBounds_toArray, List.set_cons_zero, List.set_cons_succ]
          refine wpAnyH_take (i := 2) (v := ?_) rfl (by kernel_rfl) (by kernel_rfl) (by kernel_rfl) (fun _ _ _ h => h) (Or.inl ⟨by rfl, ?_⟩) (by assumption) ?_
          rotate_left
          focus (intro _ hSw; (try dsimp only at hSw); go_simp; try (with_reducible rfl))
          try simp only [Act.put, List.getElem_toArray, List.getElem_cons_zero, List.getElem_cons_succ, List.setIfInBounds_toArray, List.set_cons_zero, List.set_cons_succ]
          refine wpAnyH_take (i := 3) (v := ?_) rfl (by kernel_rfl) (by kernel_rfl) (by kernel_rfl) (fun _ _ _ h => h) (Or.inl ⟨by rfl, ?_⟩) (by assumption) ?_
          rotate_left
          focus (intro _ hSw; (try dsimp only at hSw); go_simp; try (with_reducible rfl))
          try simp only [Act.put, List.getElem_toArray, List.getElem_cons_zero, List.getElem_cons_succ, List.setIfInBounds_toArray, List.set_cons_zero, List.set_cons_succ]
          try simp only [f2]
          try go_simp
          refine wpAnyH_take (i := 4) (v := ?_) rfl (by kernel_rfl) (by kernel_rfl) (by kernel_rfl) (fun _ _ _ h => h) (Or.inl ⟨by rfl, ?_⟩) (by assumption) ?_
          rotate_left
          focus (intro _ hSw; (try dsimp only at hSw); go_simp; try (with_reducible rfl))
          try simp only [Act.put, List.getElem_toArray, List.getElem_cons_zero, List.getElem_cons_succ, List.setIfInBounds_toArray, List.set_cons_zero, List.set_cons_succ]
          try simp only [f2]
          try go_simp
          refine wpAnyH_take (i := 5) (v := ?_) rfl (by kernel_rfl) (by kernel_rfl) (by kernel_rfl) (fun _ _ _ h => h) (Or.inl ⟨by rfl, ?_⟩) (by assumption) ?_
          rotate_left
          focus (intro _ hSw; (try dsimp only at hSw); go_simp; try (with_reducible rfl))
          try simp only [Act.put, List.getElem_toArray, List.getElem_cons_zero, List.getElem_cons_succ, List.setIfInBounds_toArray, List.set_cons_zero, List.set_cons_succ]
          refine wpAnyH_take (i := 6) (v := ?_) rfl (by kernel_rfl) (by kernel_rfl) (by kernel_rfl) (fun _ _ _ h => h) (Or.inl ⟨by rfl, ?_⟩) (by assumption) ?_
          rotate_left
          focus (intro _ hSw; (try dsimp only at hSw); go_simp; try (with_reducible rfl))
          try simp only [Act.put, List.getElem_toArray, List.getElem_cons_zero, List.getElem_cons_succ, List.setIfInBounds_toArray, List.set_cons_zero, List.set_cons_succ]
          refine wpAnyH_take (i := 7) (v := ?_) rfl (by kernel_rfl) (by kernel_rfl) (by kernel_rfl) (fun _ _ _ h => h) (Or.inl ⟨by rfl, ?_⟩) (by assumption) ?_
          rotate_left
          focus (intro _ hSw; (try dsimp only at hSw); go_simp; try (with_reducible rfl))
          try simp only [Act.put, List.getElem_toArray, List.getElem_cons_zero, List.getElem_cons_succ, List.setIfInBounds_toArray, List.set_cons_zero, List.set_cons_succ]
          refine wpAnyH_take (i := 8) (v := ?_) rfl (by kernel_rfl) (by kernel_rfl) (by kernel_rfl) (fun _ _ _ h => h) (Or.inl ⟨by rfl, ?_⟩) (by assumption) ?_
          rotate_left
          focus (intro _ hSw; (try dsimp only at hSw); go_simp; try (with_reducible rfl))
          try simp only [Act.put, List.getElem_toArray, List.getElem_cons_zero, List.getElem_cons_succ, List.setIfInBounds_toArray, List.set_cons_zero, List.set_cons_succ]
          refine wpAnyH_take (i := 9) (v := ?_) rfl (by kernel_rfl) (by kernel_rfl) (by kernel_rfl) (fun _ _ _ h => h) (Or.inl ⟨by rfl, ?_⟩) (by assumption) ?_
          rotate_left
          focus (intro _ hSw; (try dsimp only at hSw); go_simp; try (with_reducible rfl))
          try simp only [Act.put, List.getElem_toArray, List.getElem_cons_zero, List.getElem_cons_succ, List.setIfInBounds_toArray, List.set_cons_zero, List.set_cons_succ]
          refine wpAnyH_take (i := 10) (v := ?_) rfl (by kernel_rfl) (by kernel_rfl) (by kernel_rfl) (fun _ _ _ h => h) (Or.inl ⟨by rfl, ?_⟩) (by assumption) ?_
          rotate_left
          focus (intro _ hSw; (try dsimp only at hSw); go_simp; try (with_reducible rfl))
          try simp only [Act.put, List.getElem_toArray, List.getElem_cons_zero, List.getElem_cons_succ, List.setIfInBounds_toArray, List.set_cons_zero, List.set_cons_succ]
          try simp only [f2]
          try go_simp
          refine wpAnyH_take (i := 11) (v := ?_) rfl (by kernel_rfl) (by kernel_rfl) (by kernel_rfl) (fun _ _ _ h => h) (Or.inl ⟨by rfl, ?_⟩) (by assumption) ?_
          rotate_left
          focus (intro _ hSw; (try dsimp only at hSw); go_simp; try (with_reducible rfl))
          try simp only [Act.put, List.getElem_toArray, List.getElem_cons_zero, List.getElem_cons_succ, List.setIfInBounds_toArray, List.set_cons_zero, List.set_cons_succ]
          try simp only [f2]
          try go_simp
          refine wpAnyH_take (i := 12) (v := ?_) rfl (by kernel_rfl) (by kernel_rfl) (by kernel_rfl) (fun _ _ _ h => h) (Or.inl ⟨by rfl, ?_⟩) (by assumption) ?_
          rotate_left
          focus (intro _ hSw; (try dsimp only at hSw); go_simp; try (with_reducible rfl))
          try simp only [Act.put, List.getElem_toArray, List.getElem_cons_zero, List.getElem_cons_succ, List.setIfInBounds_toArray, List.set_cons_zero, List.set_cons_succ]
          try simp only [f2]
          try go_simp
          refine wpAnyH_take (i := 13) (v := ?_) rfl (by kernel_rfl) (by kernel_rfl) (by kernel_rfl) (fun _ _ _ h => h) (Or.inl ⟨by rfl, ?_⟩) (by assumption) ?_
          rotate_left
          focus (intro _ hSw; (try dsimp only at hSw); go_simp; try (with_reducible rfl))
          try simp only [Act.put, List.getElem_toArray, List.getElem_cons_zero, List.getElem_cons_succ, List.setIfInBounds_toArray, List.set_cons_zero, List.set_cons_succ]
          refine wpAnyH_take (i := 14) (v := ?_) rfl (by kernel_rfl) (by kernel_rfl) (by kernel_rfl) (fun _ _ _ h => h) (Or.inl ⟨by rfl, ?_⟩) (by assumption) ?_
          rotate_left
          focus (intro _ hSw; (try dsimp only at hSw); go_simp; try (with_reducible rfl))
          try simp only [Act.put, List.getElem_toArray, List.getElem_cons_zero, List.getElem_cons_succ, List.setIfInBounds_toArray, List.set_cons_zero, List.set_cons_succ]
          refine wpAnyH_take (i := 15) (v := ?_) rfl (by kernel_rfl) (by kernel_rfl) (by kernel_rfl) (fun _ _ _ h => h) (Or.inl ⟨by rfl, ?_⟩) (by assumption) ?_
          rotate_left
          focus (intro _ hSw; (try dsimp only at hSw); go_simp; try (with_reducible rfl))
          try simp only [Act.put, List.getElem_toArray, List.getElem_cons_zero, List.getElem_cons_succ, List.setIfInBounds_toArray, List.set_cons_zero, List.set_cons_succ]
          try simp only [f2]
          try go_simp
          refine wpAnyH_take (i := 16) (v := ?_) rfl (by kernel_rfl) (by kernel_rfl) (by kernel_rfl) (fun _ _ _ h => h) (Or.inl ⟨by rfl, ?_⟩) (by assumption) ?_
          rotate_left
          focus (intro _ hSw; (try dsimp only at hSw); go_simp; try (with_reducible rfl))
          try simp only [Act.put, List.getElem_toArray, List.getElem_cons_zero, List.getElem_cons_succ, List.setIfInBounds_toArray, List.set_cons_zero, List.set_cons_succ]
          try simp only [f2]
          try go_simp
          refine wpAnyH_take (i := 17) (v := ?_) rfl (by kernel_rfl) (by kernel_rfl) (by kernel_rfl) (fun _ _ _ h => h) (Or.inl ⟨by rfl, ?_⟩) (by assumption) ?_
          rotate_left
          focus (intro _ hSw; (try dsimp only at hSw); go_simp; try (with_reducible rfl))
          try simp only [Act.put, List.getElem_toArray, List.getElem_cons_zero, List.getElem_cons_succ, List.setIfInBounds_toArray, List.set_cons_zero, List.set_cons_succ]
          try simp only [f2]
          try go_simp
          refine wpAnyH_done (by kernel_rfl) ?_ _
          have hBt := zDrew hBt
          replace q2 : (World.drew y5).cell? ⟨gu, 2, none⟩ = some (.string Hb) := q2
          replace q3 : (World.drew y5).cell? ⟨gu, 3, none⟩ = some (.int .i64 pt) := q3
          clear f1 f2 s1 k4 bdt hKt bu q0 q1 q4 q5
          obtain ⟨y6, hy6⟩ : ∃ zz, zz = World.drew y5 := ⟨_, rfl⟩
          rw [← hy6] at hBt q2 q3 hHeld ⊢
          clear hy6
          clear hHeld
          by_cases p0 : pt = 0
          · subst p0
            have s4 : ((Wt.extract Hb.size Wt.size).toList == [58, 53, 48, 54, 48]) = true := by rw [s3 (.inl rfl)]; decide +kernel
            clear s3
            go_wp2_with (go_at_call 12; refine (HAW.out _ (HM.out.below hBt)).mono ?_; rintro e wz ⟨rfl, hCz⟩)
            go_ret
            exact ⟨rfl, hBt.trans (hCz.mono hBt.size)⟩
          by_cases p1 : pt = 5060
          · subst p1
            have s4 : ((Wt.extract Hb.size Wt.size).toList == [58, 53, 48, 54, 48]) = true := by rw [s3 (.inr rfl)]; decide +kernel
            clear s3
            go_wp2_with (go_at_call 12; refine (HAW.out _ (HM.out.below hBt)).mono ?_; rintro e wz ⟨rfl, hCz⟩)
            go_ret
            exact ⟨rfl, hBt.trans (hCz.mono hBt.size)⟩
          have t0 : (pt != 0) = true := by simpa using p0
          have t1 : (pt != 5060) = true := by simpa using p1
          clear s3 p0 p1
          go_wp2_with (go_at_call 12; refine (HAW.out _ (HM.out.below hBt)).mono ?_; rintro e wz ⟨rfl, hCz⟩)
          go_ret
          exact ⟨rfl, hBt.trans (hCz.mono hBt.size)⟩

end Go.Proofs.YtipdiddjhimdcaaGreatDoor

