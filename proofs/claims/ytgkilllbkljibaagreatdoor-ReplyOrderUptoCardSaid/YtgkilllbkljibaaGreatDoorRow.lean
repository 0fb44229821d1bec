/-
  ReplyOrder: the walk.
-/
import Derived.Test.YtgkilllbkljibaaGreatDoorRoA
import Derived.Test.YtgkilllbkljibaaGreatDoorRaw
import Derived.Test.YtgkilllbkljibaaGreatDoorRba
import Derived.Test.YtgkilllbkljibaaGreatDoorRs0
import Derived.Test.YtgkilllbkljibaaGreatDoorRsm
import Derived.Deep.RegionHeld3
namespace Go.Proofs.YtgkilllbkljibaaGreatDoor
set_option linter.unusedSimpArgs false
set_option linter.unusedVariables false
open Go.RowKit Go.Sort

set_option maxRecDepth 100000 in
set_option maxHeartbeats 25600000 in
theorem replyOrder_walk (M TG RS B : ByteArray) (X : Int) (u : Value) (H : List Hdr) (h1 : M.size ≤ 1048576) (h2 : TG.size ≤ 1048576) (h3 : RS.size ≤ 1048576) (h4 : B.size ≤ 1048576) (hH : H.length ≤ 1048576)
    (hb : ∀ h ∈ H, h.name.length ≤ 1048576 ∧ h.value.length ≤ 1048576) (X0 : -9223372036854775808 ≤ X) (X1 : X ≤ 9223372036854775807) (c : Int) (c0 : 0 ≤ c) (c1 : c ≤ 18446744073709551615) (V : ByteArray) (hV : V.size ≤ 1048576) (w : World) (hm : Ml w) (hu : RHdrs w u H) :
    Calls Tryz.prog 5 #[.agg #[.string M, .string TG, .int .i64 X, .string RS, u, .string B], .int .u64 c, .string V] w fun e w' => e = .returned (.bool true) ∧ Below w.heap.size w w' := by
  have HM := Lib.hid hm
  have HU := Lib.hid hu
  obtain ⟨mo, mc, rfl, _, _⟩ := hu.form
  have HSM := Lib.hid (fun (wx : World) (h : Below w.heap.size w wx) => small10_c M TG RS B X (.slice mo H.length mc) H h1 h2 h3 h4 hH hb wx (hu.below h (Nat.le_refl _)))
  obtain ⟨sb, hsb⟩ : ∃ x, x = decide (size3 M TG B + sumH H ≤ 6000) := ⟨_, rfl⟩
  rw [← hsb] at HSM
  clear hsb
  have HAW := Lib.hid (fun wx hx => awake10_c wx hx)
  have HRD := Lib.hid (fun (wx : World) (h : Below w.heap.size w wx) => readRq_c M TG RS B X (.slice mo H.length mc) H wx (hm.below h) (hu.below h (Nat.le_refl _)) hb hH (by omega))
  unfold RPost at HRD
  have HBS := Lib.hid (fun (wx : World) (h : Below w.heap.size w wx) => base_c M TG RS B X (.slice mo H.length mc) H wx (hm.below h) (hu.below h (Nat.le_refl _)) hb hH)
  unfold RPost at HBS
  have p4 : ∀ wx, Blk wx w.heap.size 24 #[.string M, .string TG, .int .i64 X, .string RS, .slice mo H.length mc, .string B] → wx.cell? ⟨w.heap.size, 4, none⟩ = some (.slice mo H.length mc) := fun wx h => boxedCell h 4
  have HP4 := Lib.hid p4
  clear p4
  cases sb with
  | false =>
    clear c0 c1 hV
    go_enter Tryz.func5, Tryz.ntmps5
    go_upto_region 1 with fail
    refine any_world (R := Code.wp _ _ _ _) (fun x => Blk x w.heap.size 24 #[.string M, .string TG, .int .i64 X, .string RS, .slice mo H.length mc, .string B] ∧ Below w.heap.size w x) (show Blk (w.alloc (.cells #[.string M, .string TG, .int .i64 X, .string RS, .slice mo H.length mc, .string B] 24)) _ _ _ ∧ Below _ w (w.alloc (.cells #[.string M, .string TG, .int .i64 X, .string RS, .slice mo H.length mc, .string B] 24)) from ⟨Blk.new w _ _, (Below.refl _ _).alloc (Nat.le_refl _) _⟩) ?_
    rintro wr ⟨bm, hB⟩
    go_wp2_with (first | ((with_reducible refine holdLoad 24 rfl ?_); unfold Hold; refine wpList_loadB (vs := #[.string M, .string TG, .int .i64 X, .string RS, .slice mo H.length mc, .string B]) rfl rfl rfl Tryz.underlying24 (by kernel_rfl) bm (whole _) ?_) | (go_at_call 7; refine (HSM.out _ hB).mono ?_; rintro e w1 ⟨rfl, hC⟩; replace bm := bm.call hC; replace hB := hB.trans (hC.mono hB.size); clear hC) | (go_at_call 8; refine (HAW.out _ (HM.out.below hB)).mono ?_; rintro e w9 ⟨rfl, hC9⟩; replace hB := hB.trans (hC9.mono hB.size); clear hC9))
    go_ret
    exact ⟨rfl, hB⟩
  | true =>
    by_cases h64 : 64 ≤ H.length
    · have t64 : decide ((64 : Int) ≤ (H.length : Int)) = true := by simp; omega
      clear c0 c1 hV h64
      go_enter Tryz.func5, Tryz.ntmps5
      go_upto_region 1 with fail
      refine any_world (R := Code.wp _ _ _ _) (fun x => Blk x w.heap.size 24 #[.string M, .string TG, .int .i64 X, .string RS, .slice mo H.length mc, .string B] ∧ Below w.heap.size w x) (show Blk (w.alloc (.cells #[.string M, .string TG, .int .i64 X, .string RS, .slice mo H.length mc, .string B] 24)) _ _ _ ∧ Below _ w (w.alloc (.cells #[.string M, .string TG, .int .i64 X, .string RS, .slice mo H.length mc, .string B] 24)) from ⟨Blk.new w _ _, (Below.refl _ _).alloc (Nat.le_refl _) _⟩) ?_
      rintro wr ⟨bm, hB⟩
      go_wp2_with (first | ((with_reducible refine holdLoad 24 rfl ?_); unfold Hold; refine wpList_loadB (vs := #[.string M, .string TG, .int .i64 X, .string RS, .slice mo H.length mc, .string B]) rfl rfl rfl Tryz.underlying24 (by kernel_rfl) bm (whole _) ?_) | (go_at_call 7; refine (HSM.out _ hB).mono ?_; rintro e w1 ⟨rfl, hC⟩; replace bm := bm.call hC; replace hB := hB.trans (hC.mono hB.size); clear hC; have p4 := HP4.out _ bm) | (go_at_call 8; refine (HAW.out _ (HM.out.below hB)).mono ?_; rintro e w9 ⟨rfl, hC9⟩; replace hB := hB.trans (hC9.mono hB.size); clear hC9))
      go_ret
      exact ⟨rfl, hB⟩
    have t64 : decide ((64 : Int) ≤ (H.length : Int)) = false := by simp; omega
    obtain ⟨K, hK⟩ : ∃ K, K = c.toNat % (H.length + 1) := ⟨_, rfl⟩
    have hKl : K ≤ H.length := by have := Nat.mod_lt c.toNat (show 0 < H.length + 1 by omega); omega
    have kB : c % ((H.length : Int) + 1) = (K : Int) := by rw [hK, Int.natCast_emod, Int.toNat_of_nonneg c0]; rfl
    have kU : IntKind.u64.wrap ((H.length : Int) + 1) = (H.length : Int) + 1 := IntWalk.u64_in _ (by omega)
    have kW : IntKind.i64.wrap ((H.length : Int) + 1) = (H.length : Int) + 1 := IntWalk.i64_in _ (by omega)
    have kI : IntKind.i64.wrap (K : Int) = (K : Int) := IntWalk.i64_in _ (by omega)
    have v0 : (((H.length : Int) + 1) == 0) = false := by rw [beq_eq_false_iff_ne]; omega
    clear hK
    have hbN : ∀ h ∈ (H.take K ++ ⟨nOther, us V⟩ :: H.drop K), h.name.length ≤ 1048576 ∧ h.value.length ≤ 1048576 := by
      intro h hh
      rcases List.mem_append.1 hh with hh | hh
      · exact hb h (List.mem_of_mem_take hh)
      rcases List.mem_cons.1 hh with rfl | hh
      · exact ⟨by show nOther.length ≤ _; decide, by show (us V).length ≤ _; rw [length_us]; exact hV⟩
      · exact hb h (List.mem_of_mem_drop hh)
    have hlN : (H.take K ++ ⟨nOther, us V⟩ :: H.drop K).length ≤ 1048576 := by simp only [List.length_append, List.length_cons, List.length_take, List.length_drop]; omega
    have HRN := Lib.hid (fun (wx : World) v (h : Below w.heap.size w wx) (hr : RHdrs wx v (H.take K ++ ⟨nOther, us V⟩ :: H.drop K)) => readRq_c M TG RS B X v (H.take K ++ ⟨nOther, us V⟩ :: H.drop K) wx (hm.below h) hr hbN hlN (by omega))
    unfold RPost at HRN
    have HBN := Lib.hid (fun (wx : World) v (h : Below w.heap.size w wx) (hr : RHdrs wx v (H.take K ++ ⟨nOther, us V⟩ :: H.drop K)) => base_c M TG RS B X v (H.take K ++ ⟨nOther, us V⟩ :: H.drop K) wx (hm.below h) hr hbN hlN)
    unfold RPost at HBN
    rw [show (⟨us M, us TG, X, us RS, (H.take K ++ ⟨nOther, us V⟩ :: H.drop K), us B⟩ : Mg) = insM ⟨us M, us TG, X, us RS, H, us B⟩ K (us V) from rfl, read_ins] at HRN
    rw [show (⟨us M, us TG, X, us RS, (H.take K ++ ⟨nOther, us V⟩ :: H.drop K), us B⟩ : Mg) = insM ⟨us M, us TG, X, us RS, H, us B⟩ K (us V) from rfl, must_ins] at HBN
    obtain ⟨⟨R, ec⟩, hR⟩ : ∃ x, x = readS ⟨us M, us TG, X, us RS, H, us B⟩ := ⟨_, rfl⟩
    rw [← hR] at HRD HRN
    obtain ⟨⟨Q, fc⟩, hQ⟩ : ∃ x, x = mustS ⟨us M, us TG, X, us RS, H, us B⟩ := ⟨_, rfl⟩
    rw [← hQ] at HBS HBN
    dsimp only at HRD HRN HBS HBN
    have HS1 := Lib.hid (fun wx va vb ha hb => same10_c va vb R wx ha hb)
    have HS2 := Lib.hid (fun wx va vb ha hb => same10_c va vb Q wx ha hb)
    clear hR hQ hbN hlN hm hu hb X0 X1 h1 h2 h3 h4
    go_enter Tryz.func5, Tryz.ntmps5
    go_upto_region 1 with fail
    refine any_world (R := Code.wp _ _ _ _) (fun x => Blk x w.heap.size 24 #[.string M, .string TG, .int .i64 X, .string RS, .slice mo H.length mc, .string B] ∧ Below w.heap.size w x) (show Blk (w.alloc (.cells #[.string M, .string TG, .int .i64 X, .string RS, .slice mo H.length mc, .string B] 24)) _ _ _ ∧ Below _ w (w.alloc (.cells #[.string M, .string TG, .int .i64 X, .string RS, .slice mo H.length mc, .string B] 24)) from ⟨Blk.new w _ _, (Below.refl _ _).alloc (Nat.le_refl _) _⟩) ?_
    rintro wr ⟨bm, hB⟩
    go_upto_region 4 with (first | ((with_reducible refine holdLoad 24 rfl ?_); unfold Hold; refine wpList_loadB (vs := #[.string M, .string TG, .int .i64 X, .string RS, .slice mo H.length mc, .string B]) rfl rfl rfl Tryz.underlying24 (by kernel_rfl) bm (whole _) ?_) | (go_at_call 7; refine (HSM.out _ hB).mono ?_; rintro e w1 ⟨rfl, hC⟩; replace bm := bm.call hC; replace hB := hB.trans (hC.mono hB.size); clear hC; have p4 := HP4.out _ bm))
    clear kB kU kW kI v0 t64 p4 c0 c1
    go_upto_region 5 with (first | ((with_reducible refine holdLoad 24 rfl ?_); unfold Hold; refine wpList_loadB (vs := #[.string M, .string TG, .int .i64 X, .string RS, .slice mo H.length mc, .string B]) rfl rfl rfl Tryz.underlying24 (by kernel_rfl) bm (whole _) ?_) | ((with_reducible refine holdStore 24 rfl ?_); unfold Hold; refine wpList_storeNew (vs := #[.string M, .string TG, .int .i64 X, .string RS, .slice mo H.length mc, .string B]) rfl rfl rfl rfl (by kernel_rfl) (by kernel_rfl) (by kernel_rfl) ?_; refine wpList_to (fun x => ∃ gn, OSt w #[.string M, .string TG, .int .i64 X, .string RS, .slice mo H.length mc, .string B] gn #[.string M, .string TG, .int .i64 X, .string RS, .slice mo H.length mc, .string B] x ∧ gn = w1.heap.size) ⟨_, ⟨bm.alloc _, Blk.new _ _ _, hB.alloc hB.size _, bm.lt⟩, rfl⟩ ?_; clear bm hB; rintro w2 ⟨gn, hS, hgn⟩; rw [← hgn]))
    clear hgn
    have hk0 : (0 : Int) ≤ (K : Int) := by omega
    have hkc : (K : Int) ≤ (mc : Int) := by
      rcases Nat.eq_zero_or_pos H.length with h | h
      · omega
      · have := RHdrs.cap HU.out h; omega
    have p4 := HP4.out _ hS.bm
    have be := Blk.new w2 46 #[]
    have hv0 := Hdrs.emp be (show gn + 1 ≤ w2.heap.size from hS.bn.lt)
    have hS1 := hS.call ((Below.refl _ _).alloc (Nat.le_refl _) (.cells #[] 46))
    have p4' := HP4.out _ hS1.bm
    go_upto_region 6 with (first | (at_builtin; refine wpList_appHs (base := gn + 1) (L := []) (M := H.take K) rfl rfl Tryz.underlying22 infoH rfl ((HU.out.below hS1.hB (Nat.le_refl _)).takeS K hKl) rfl hv0 (Below.refl _ _) hS1.bn.lt (by rw [List.length_take]; simp only [List.length_nil]; omega) ?_; intro v1 w3 hv1 hb1; rw [List.nil_append] at hv1; replace hS1 := hS1.low hb1; clear hb1 hv0 be hS p4 p4'; obtain ⟨n1, vo, vc, rfl⟩ := hdrs_toN hv1; have hS3 := hS1.call ((Below.refl _ _).alloc (Nat.le_refl _) (.cells #[.string ⟨#[88, 45, 79, 116, 104, 101, 114]⟩, .string V] 46)); have hv3 := hv1.below ((Below.refl _ _).alloc (Nat.le_refl _) (.cells #[.string ⟨#[88, 45, 79, 116, 104, 101, 114]⟩, .string V] 46)) (Nat.le_refl _); clear hS1 hv1) | (at_builtin; refine wpList_appHs (base := gn + 1) (L := H.take K) (M := [⟨nOther, us V⟩]) rfl rfl Tryz.underlying22 infoH rfl (RHdrs.one V _) rfl hv3 (Below.refl _ _) hS3.bn.lt (by rw [List.length_take]; simp only [List.length_cons, List.length_nil]; omega) ?_; intro v2 w4 hv4 hb4; replace hS3 := hS3.low hb4; clear hb4 hv3; obtain ⟨n2, vo2, vc2, rfl⟩ := hdrs_toN hv4) | ((with_reducible refine holdStore 22 rfl ?_); unfold Hold; refine wpList_storeC (off := 4) (v := .slice vo2 n2 vc2) (cs' := #[.string M, .string TG, .int .i64 X, .string RS, .slice vo2 n2 vc2, .string B]) rfl rfl rfl rfl (by kernel_rfl) hS3.bn (Nat.le_of_ble_eq_true (by kernel_rfl)) (by kernel_rfl) (by kernel_rfl) (by kernel_rfl) ?_; intro w5 b5 hf5 hs5 hl5; have hv5 := hv4.far (Nat.lt_succ_self gn) hf5 hs5; have hS5 := hS3.store b5 hf5 hl5; clear b5 hf5 hs5 hl5 hv4 hS3))
    have hkL : (K : Int) ≤ (H.length : Int) := by omega
    refine wp_region_held_drew (S := fun wx => Blk wx w.heap.size 24 #[.string M, .string TG, .int .i64 X, .string RS, .slice mo H.length mc, .string B]) (by kernel_rfl) (Blk.drw hS5.bm) (fun hHeld => ?_)
    replace hS5 := hS5.drew
    replace hv5 := hv5.below (zDrew (Below.refl _ _)) (Nat.le_refl _)
    refine wpAnyH_take (i := 0) (v := ?_) rfl (by kernel_rfl) (by kernel_rfl) (by kernel_rfl) (fun _ _ _ h => h) (Or.inl ⟨by rfl, ?_⟩) (by assumption) ?_
    rotate_left
    focus (intro _ hSw; (try dsimp only at hSw); go_simp; try (with_reducible rfl))
    try simp only [Act.put, List.getElem_toArray, List.getElem_cons_zero, List.getElem_cons_succ, List.setIfInBounds_toArray, List.set_cons_zero, List.set_cons_succ]
    refine wpAnyH_take (i := 2) (v := ?_) rfl (by kernel_rfl) (by kernel_rfl) (by kernel_rfl) (fun _ _ _ h => h) (Or.inl ⟨by rfl, ?_⟩) (by assumption) ?_
    rotate_left
    focus (intro _ hSw; (try dsimp only at hSw); go_simp; try (with_reducible rfl))
    try simp only [Act.put, List.getElem_toArray, List.getElem_cons_zero, List.getElem_cons_succ, List.setIfInBounds_toArray, List.set_cons_zero, List.set_cons_succ]
    refine wpAnyH_take (i := 3) (v := .slice mo H.length mc) rfl (by kernel_rfl) (by kernel_rfl) (by kernel_rfl) (fun _ _ _ h => h) (Or.inl ⟨by rfl, ?_⟩) (by assumption) ?_
    focus (intro wx hSw; have c4 := HP4.out _ hSw; go_simp)
    try simp only [Act.put, List.getElem_toArray, List.getElem_cons_zero, List.getElem_cons_succ, List.setIfInBounds_toArray, List.set_cons_zero, List.set_cons_succ]
    refine wpAnyH_take (i := 4) (v := ?_) rfl (by kernel_rfl) (by kernel_rfl) (by kernel_rfl) (fun _ _ _ h => h) (Or.inl ⟨by rfl, ?_⟩) (by assumption) ?_
    rotate_left
    focus (intro _ hSw; (try dsimp only at hSw); go_simp; try (with_reducible rfl))
    try simp only [Act.put, List.getElem_toArray, List.getElem_cons_zero, List.getElem_cons_succ, List.setIfInBounds_toArray, List.set_cons_zero, List.set_cons_succ]
    refine wpAnyH_take (i := 5) (v := .slice (if mc = K then mo else mo.map (·.add (K * 2))) (H.length - K) (mc - K)) rfl (by kernel_rfl) (by kernel_rfl) (by kernel_rfl) (fun _ _ _ h => h) (Or.inl ⟨by rfl, ?_⟩) (by assumption) ?_
    focus (intro wx hSw; go_simp)
    try simp only [Act.put, List.getElem_toArray, List.getElem_cons_zero, List.getElem_cons_succ, List.setIfInBounds_toArray, List.set_cons_zero, List.set_cons_succ]
    refine wpAnyH_ready (rs := [1]) (by kernel_rfl) (by simp) ?_
    refine AllReadyH.cons rfl (fun Kq hK => ?_) ?_
    ·
      have c4 : w5.drew.cell? ⟨gn, 4, none⟩ = some (.slice vo2 n2 vc2) := boxedCell hS5.bn 4
      go_simp
      clear c4
      refine hK.out _ _ ?_ (fun hHeld => ?_)
      focus ((try dsimp only); exact hS5.bm)
      clear hK Kq
      try simp only [Act.put, List.getElem_toArray, List.getElem_cons_zero, List.getElem_cons_succ, List.setIfInBounds_toArray, List.set_cons_zero, List.set_cons_succ]
      refine wpAnyH_ready (rs := [6]) (by kernel_rfl) (by simp) ?_
      refine AllReadyH.cons rfl (fun Kq hK => ?_) ?_
      ·
        rw [if_pos (by rfl)]
        refine op_appHs (base := gn + 1) (v := .slice vo2 n2 vc2) (L := (H.take K ++ [⟨nOther, us V⟩] : List Hdr)) (M := H.drop K) rfl Tryz.underlying22 infoH rfl ((HU.out.below hS5.hB (Nat.le_refl _)).slicedS rfl K hKl) rfl hv5 (Below.refl _ _) hS5.bn.lt (by simp only [List.length_append, List.length_cons, List.length_nil, List.length_take, List.length_drop]; omega) ?_
        intro v6 w6 hv6 hb6
        replace hS5 := hS5.low hb6
        clear hb6 hv5
        obtain ⟨n3, vo3, vc3, rfl⟩ := hdrs_toN hv6
        refine hK.out _ _ ?_ (fun hHeld => ?_)
        focus ((try dsimp only); exact hS5.bm)
        clear hK Kq
        try simp only [Act.put, List.getElem_toArray, List.getElem_cons_zero, List.getElem_cons_succ, List.setIfInBounds_toArray, List.set_cons_zero, List.set_cons_succ]
        refine wpAnyH_take (i := 7) (v := ?_) rfl (by kernel_rfl) (by kernel_rfl) (by kernel_rfl) (fun _ _ _ h => h) (Or.inl ⟨by rfl, ?_⟩) (by assumption) ?_
        rotate_left
        focus (intro _ hSw; (try dsimp only at hSw); go_simp; try (with_reducible rfl))
        try simp only [Act.put, List.getElem_toArray, List.getElem_cons_zero, List.getElem_cons_succ, List.setIfInBounds_toArray, List.set_cons_zero, List.set_cons_succ]
        refine wpAnyH_ready (rs := [8]) (by kernel_rfl) (by simp) ?_
        refine AllReadyH.cons rfl (fun Kq hK => ?_) ?_
        ·
          rw [if_pos (by rfl)]
          refine op_storeC (off := 4) (v := .slice vo3 n3 vc3) (cs' := #[.string M, .string TG, .int .i64 X, .string RS, .slice vo3 n3 vc3, .string B]) rfl rfl rfl (by kernel_rfl) hS5.bn (Nat.le_of_ble_eq_true (by kernel_rfl)) (by kernel_rfl) (by kernel_rfl) (by kernel_rfl) ?_
          intro w7 b7 hf7 hs7 hl7
          replace hv6 := hv6.far (Nat.lt_succ_self gn) hf7 hs7
          replace hS5 := hS5.store b7 hf7 hl7
          clear b7 hf7 hs7 hl7
          refine hK.out _ _ ?_ (fun hHeld => ?_)
          focus ((try dsimp only); exact hS5.bm)
          clear hK Kq
          try simp only [Act.put, List.getElem_toArray, List.getElem_cons_zero, List.getElem_cons_succ, List.setIfInBounds_toArray, List.set_cons_zero, List.set_cons_succ]
          refine wpAnyH_done (by kernel_rfl) ?_ _
          have hN := hv6.read
          rw [mapsto_ins] at hN
          have hS := hS5
          clear hS5 hv6 hHeld hk0 hkc hkL
          go_upto_region 8 with (first | ((with_reducible refine holdLoad 24 rfl ?_); unfold Hold; refine wpList_loadB (vs := #[.string M, .string TG, .int .i64 X, .string RS, .slice mo H.length mc, .string B]) rfl rfl rfl Tryz.underlying24 (by kernel_rfl) hS.bm (whole _) ?_) | (go_at_call 9; refine (HRD.out _ hS.hB).mono ?_; rintro e w8 ⟨xs, rfl, r1, s1, o1, hC⟩; replace hN := hN.below hC (Nat.le_refl _); replace hS := hS.call hC; clear hC) | ((with_reducible refine holdStore 37 rfl ?_); unfold Hold; refine wpList_storeNew (vs := xs) rfl rfl rfl rfl (by rw [s1]; rfl) (by rw [s1]; rfl) o1 ?_; refine wpList_to (fun x => OSt w #[.string M, .string TG, .int .i64 X, .string RS, .slice mo H.length mc, .string B] gn #[.string M, .string TG, .int .i64 X, .string RS, .slice vo3 n3 vc3, .string B] x ∧ RHdrs x (.slice vo3 n3 vc3) (H.take K ++ ⟨nOther, us V⟩ :: H.drop K) ∧ Blk x w8.heap.size 37 xs ∧ RRqt x (.agg xs) R) ⟨hS.call ((Below.refl _ _).alloc (Nat.le_refl _) _), hN.below ((Below.refl _ _).alloc (Nat.le_refl _) _) (Nat.le_refl _), Blk.new _ _ _, r1.below ((Below.refl _ _).alloc (Nat.le_refl _) _) (Nat.le_refl _)⟩ ?_; clear hS hN r1; rintro w9 ⟨hS, hN, b1, r1⟩))
          obtain ⟨g1, hg1⟩ : ∃ x, x = w8.heap.size := ⟨_, rfl⟩
          rw [← hg1] at b1 ⊢
          clear hg1
          go_upto_region 9 with (first | ((with_reducible refine holdLoad 24 rfl ?_); unfold Hold; refine wpList_loadB (vs := #[.string M, .string TG, .int .i64 X, .string RS, .slice vo3 n3 vc3, .string B]) rfl rfl rfl Tryz.underlying24 (by kernel_rfl) hS.bn (whole _) ?_) | (go_at_call 9; refine (HRN.out _ _ hS.hB hN).mono ?_; rintro e w8 ⟨ys, rfl, r2, s2, o2, hC⟩; replace hN := hN.below hC (Nat.le_refl _); replace hS := hS.call hC; replace b1 := b1.call hC; replace r1 := r1.below hC (Nat.le_refl _); clear hC) | ((with_reducible refine holdStore 37 rfl ?_); unfold Hold; refine wpList_storeNew (vs := ys) rfl rfl rfl rfl (by rw [s2]; rfl) (by rw [s2]; rfl) o2 ?_; refine wpList_to (fun x => OSt w #[.string M, .string TG, .int .i64 X, .string RS, .slice mo H.length mc, .string B] gn #[.string M, .string TG, .int .i64 X, .string RS, .slice vo3 n3 vc3, .string B] x ∧ RHdrs x (.slice vo3 n3 vc3) (H.take K ++ ⟨nOther, us V⟩ :: H.drop K) ∧ Blk x w8.heap.size 37 ys ∧ RRqt x (.agg ys) R ∧ Blk x g1 37 xs ∧ RRqt x (.agg xs) R) ⟨hS.call ((Below.refl _ _).alloc (Nat.le_refl _) _), hN.below ((Below.refl _ _).alloc (Nat.le_refl _) _) (Nat.le_refl _), Blk.new _ _ _, r2.below ((Below.refl _ _).alloc (Nat.le_refl _) _) (Nat.le_refl _), b1.call ((Below.refl _ _).alloc (Nat.le_refl _) _), r1.below ((Below.refl _ _).alloc (Nat.le_refl _) _) (Nat.le_refl _)⟩ ?_; clear hS hN r2 b1 r1; rintro w9 ⟨hS, hN, b2, r2, b1, r1⟩))
          obtain ⟨g2, hg2⟩ : ∃ x, x = w8.heap.size := ⟨_, rfl⟩
          rw [← hg2] at b2 ⊢
          clear hg2
          go_upto_region 10 with (first | ((with_reducible refine holdLoad 24 rfl ?_); unfold Hold; refine wpList_loadB (vs := #[.string M, .string TG, .int .i64 X, .string RS, .slice mo H.length mc, .string B]) rfl rfl rfl Tryz.underlying24 (by kernel_rfl) hS.bm (whole _) ?_) | (go_at_call 12; refine (HBS.out _ hS.hB).mono ?_; rintro e w8 ⟨zs, rfl, r3, s3, o3, hC⟩; replace hN := hN.below hC (Nat.le_refl _); replace hS := hS.call hC; replace b1 := b1.call hC; replace r1 := r1.below hC (Nat.le_refl _); replace b2 := b2.call hC; replace r2 := r2.below hC (Nat.le_refl _); clear hC) | ((with_reducible refine holdStore 37 rfl ?_); unfold Hold; refine wpList_storeNew (vs := zs) rfl rfl rfl rfl (by rw [s3]; rfl) (by rw [s3]; rfl) o3 ?_; refine wpList_to (fun x => OSt w #[.string M, .string TG, .int .i64 X, .string RS, .slice mo H.length mc, .string B] gn #[.string M, .string TG, .int .i64 X, .string RS, .slice vo3 n3 vc3, .string B] x ∧ RHdrs x (.slice vo3 n3 vc3) (H.take K ++ ⟨nOther, us V⟩ :: H.drop K) ∧ Blk x w8.heap.size 37 zs ∧ RRqt x (.agg zs) Q ∧ Blk x g1 37 xs ∧ RRqt x (.agg xs) R ∧ Blk x g2 37 ys ∧ RRqt x (.agg ys) R) ⟨hS.call ((Below.refl _ _).alloc (Nat.le_refl _) _), hN.below ((Below.refl _ _).alloc (Nat.le_refl _) _) (Nat.le_refl _), Blk.new _ _ _, r3.below ((Below.refl _ _).alloc (Nat.le_refl _) _) (Nat.le_refl _), b1.call ((Below.refl _ _).alloc (Nat.le_refl _) _), r1.below ((Below.refl _ _).alloc (Nat.le_refl _) _) (Nat.le_refl _), b2.call ((Below.refl _ _).alloc (Nat.le_refl _) _), r2.below ((Below.refl _ _).alloc (Nat.le_refl _) _) (Nat.le_refl _)⟩ ?_; clear hS hN r3 b1 r1 b2 r2; rintro w9 ⟨hS, hN, b3, r3, b1, r1, b2, r2⟩))
          obtain ⟨g3, hg3⟩ : ∃ x, x = w8.heap.size := ⟨_, rfl⟩
          rw [← hg3] at b3 ⊢
          clear hg3
          go_upto_region 11 with (first | ((with_reducible refine holdLoad 24 rfl ?_); unfold Hold; refine wpList_loadB (vs := #[.string M, .string TG, .int .i64 X, .string RS, .slice vo3 n3 vc3, .string B]) rfl rfl rfl Tryz.underlying24 (by kernel_rfl) hS.bn (whole _) ?_) | (go_at_call 12; refine (HBN.out _ _ hS.hB hN).mono ?_; rintro e w8 ⟨us_, rfl, r4, s4, o4, hC⟩; replace hN := hN.below hC (Nat.le_refl _); replace hS := hS.call hC; replace b1 := b1.call hC; replace r1 := r1.below hC (Nat.le_refl _); replace b2 := b2.call hC; replace r2 := r2.below hC (Nat.le_refl _); replace b3 := b3.call hC; replace r3 := r3.below hC (Nat.le_refl _); clear hC) | ((with_reducible refine holdStore 37 rfl ?_); unfold Hold; refine wpList_storeNew (vs := us_) rfl rfl rfl rfl (by rw [s4]; rfl) (by rw [s4]; rfl) o4 ?_; refine wpList_to (fun x => OSt w #[.string M, .string TG, .int .i64 X, .string RS, .slice mo H.length mc, .string B] gn #[.string M, .string TG, .int .i64 X, .string RS, .slice vo3 n3 vc3, .string B] x ∧ RHdrs x (.slice vo3 n3 vc3) (H.take K ++ ⟨nOther, us V⟩ :: H.drop K) ∧ Blk x w8.heap.size 37 us_ ∧ RRqt x (.agg us_) Q ∧ Blk x g1 37 xs ∧ RRqt x (.agg xs) R ∧ Blk x g2 37 ys ∧ RRqt x (.agg ys) R ∧ Blk x g3 37 zs ∧ RRqt x (.agg zs) Q) ⟨hS.call ((Below.refl _ _).alloc (Nat.le_refl _) _), hN.below ((Below.refl _ _).alloc (Nat.le_refl _) _) (Nat.le_refl _), Blk.new _ _ _, r4.below ((Below.refl _ _).alloc (Nat.le_refl _) _) (Nat.le_refl _), b1.call ((Below.refl _ _).alloc (Nat.le_refl _) _), r1.below ((Below.refl _ _).alloc (Nat.le_refl _) _) (Nat.le_refl _), b2.call ((Below.refl _ _).alloc (Nat.le_refl _) _), r2.below ((Below.refl _ _).alloc (Nat.le_refl _) _) (Nat.le_refl _), b3.call ((Below.refl _ _).alloc (Nat.le_refl _) _), r3.below ((Below.refl _ _).alloc (Nat.le_refl _) _) (Nat.le_refl _)⟩ ?_; clear hS hN r4 b1 r1 b2 r2 b3 r3; rintro w9 ⟨hS, hN, b4, r4, b1, r1, b2, r2, b3, r3⟩))
          obtain ⟨g4, hg4⟩ : ∃ x, x = w8.heap.size := ⟨_, rfl⟩
          rw [← hg4] at b4 ⊢
          clear hg4
          go_wp2_with (first | ((with_reducible refine holdLoad 37 rfl ?_); unfold Hold; first | refine wpList_loadB (vs := xs) rfl rfl rfl Tryz.underlying37 (by rw [s1]; rfl) b1 (whole _) ?_ | refine wpList_loadB (vs := ys) rfl rfl rfl Tryz.underlying37 (by rw [s2]; rfl) b2 (whole _) ?_ | refine wpList_loadG (vs := zs) (by rfl) rfl rfl Tryz.underlying37 (by rw [s3]; rfl) b3 ?_ | refine wpList_loadG (vs := us_) (by rfl) rfl rfl Tryz.underlying37 (by rw [s4]; rfl) b4 ?_) | (go_at_call 11; first | ((with_reducible refine (HS1.out _ _ _ r1 r2).mono ?_); rintro e wa ⟨rfl, hC⟩; have b3 := b3.call hC; have b4 := b4.call hC; have r3 := r3.below hC (Nat.le_refl _); have r4 := r4.below hC (Nat.le_refl _); have hB := hS.hB.trans (hC.mono hS.hB.size)) | ((with_reducible refine (HS2.out _ _ _ r3 r4).mono ?_); rintro e wb ⟨rfl, hC2⟩; replace hB := hB.trans (hC2.mono hB.size))) | (go_at_call 8; refine (HAW.out _ (HM.out.below hB)).mono ?_; rintro e w9 ⟨rfl, hC9⟩; replace hB := hB.trans (hC9.mono hB.size); clear hC9))
          all_goals go_ret
          all_goals exact ⟨rfl, hB⟩
        exact AllReadyH.nil
      exact AllReadyH.nil
    exact AllReadyH.nil

end Go.Proofs.YtgkilllbkljibaaGreatDoor
