/-
  rosterref05.Fields.
-/
import Derived.Test.YteiafgoigfehgaaDoorFieldsA
namespace Go.Proofs.YteiafgoigfehgaaDoor
open Go.RowKit

theorem opens_yes (V : ByteArray) (n : UInt8) (h : opens n (us V) = true) : ∃ h : 0 < V.size, ((V[0].toNat : Int) == (n.toNat : Int)) = true := by
  rcases Nat.eq_zero_or_pos V.size with h0 | h0
  · rw [List.eq_nil_of_length_eq_zero ((length_us V).trans h0)] at h; cases h
  · refine ⟨h0, ?_⟩
    have := drop_us V 0 h0
    rw [List.drop_zero] at this
    rw [this] at h
    simp only [opens, beq_iff_eq] at h
    simp [h]
theorem opens_no (V : ByteArray) (n : UInt8) (h : opens n (us V) = false) : V.size = 0 ∨ ∃ h : 0 < V.size, ((V[0].toNat : Int) == (n.toNat : Int)) = false := by
  rcases Nat.eq_zero_or_pos V.size with h0 | h0
  · exact .inl h0
  · refine .inr ⟨h0, ?_⟩
    have := drop_us V 0 h0
    rw [List.drop_zero] at this
    rw [this] at h
    simp only [opens, beq_eq_false_iff_ne] at h
    rw [beq_eq_false_iff_ne]; omega

set_option maxRecDepth 100000 in
set_option maxHeartbeats 3200000 in
theorem fieldsR_c (v0 : Value) (Ps : List (List UInt8)) (w : World) (hv : RStrs w v0 Ps) (hbd : ∀ x ∈ Ps, x.length ≤ 4294967280) :
    Calls Tryd.prog 54 #[v0] w fun e w' => ∃ u, e = .returned (.tuple #[u, .int .i64 (fieldsS Ps).2]) ∧ RPrms w' u (fieldsS Ps).1 ∧ Fresh w.heap.size u ∧ Below w.heap.size w w' := by
  obtain ⟨ao, cap, rfl, hm1, c1⟩ := hv.form
  have C1 := Lib.hid c1
  have HBD := Lib.hid hbd
  clear c1 hv hbd
  unfold maxLen at hm1
  by_cases h16 : 16 < Ps.length
  · have HN := Lib.hid (show fieldsS Ps = ([], 4) by unfold fieldsS; rw [if_pos h16])
    go_enter Tryd.func54, Tryd.ntmps54
    go_wp2
    go_ret2
    exact ⟨_, by rw [HN.out]; rfl, .inl ⟨⟨_, _, rfl⟩, by rw [HN.out]⟩, Fresh.nil _ _ _, Below.refl _ _⟩
  have HFB := Lib.hid (fields_bad Ps (by omega))
  have HFE := Lib.hid (fun L => fields_end L Ps (by omega))
  go_enter Tryd.func54, Tryd.ntmps54
  go_wp2
  go_loopw [4, 5] (fun vo i wr => ∃ (k : Nat) (L : List Prm), k ≤ Ps.length ∧ i = .int .i64 k ∧ Prms wr w.heap.size vo L ∧ L.length ≤ k ∧ (∀ p ∈ L, p.name.length ≤ 64) ∧ fieldsGo [] Ps = fieldsGo L (Ps.drop k) ∧ Below w.heap.size w wr) (fun _ i _ => Ps.length - (intOf i).toNat)
  case atStart => exact ⟨0, [], Nat.zero_le _, rfl, Prms.nil _ _, Nat.le_refl _, by simp, rfl, Below.refl _ _⟩
  case round =>
    obtain ⟨k, L, hk, rfl, hown, hl, hbl, hp, hB⟩ := hrel
    have HBL := Lib.hid hbl; clear hbl
    by_cases hlt : k < Ps.length
    · have hst := fields_step L Ps k hlt hp
      obtain ⟨b, off, rfl, hb1, hc1⟩ := C1.out (by omega)
      have x1 : wr.cell? ⟨b, off + k, none⟩ = some (.string (bs Ps[k])) := by
        rw [hB.cell (p := ⟨b, off + k, none⟩) hb1]; exact hc1 k hlt
      have k0 : (0 : Int) ≤ (k : Int) := by omega
      have k1 : (k : Int) < (Ps.length : Int) := by omega
      have hxs := HBD.out _ (List.getElem_mem hlt)
      clear hc1 hp
      unfold field at hst
      have hcl := cutb_le 61 Ps[k]
      have HCT := Lib.hid (fun wx => cutR_c (bs Ps[k]) (by rw [size_bs]; omega) 61 wx)
      rw [us_bs] at HCT
      obtain ⟨c, hc⟩ : ∃ c, c = cutb 61 Ps[k] := ⟨_, rfl⟩
      rw [← hc] at HCT hst hcl
      clear hc
      obtain ⟨n0, vv, has⟩ := c
      dsimp only at hst hcl
      have HT1 := Lib.hid (fun wx => trimR_c (bs n0) (by rw [size_bs]; omega) wx)
      have HT2 := Lib.hid (fun wx => trimR_c (bs vv) (by rw [size_bs]; omega) wx)
      have ht1 := trim_le n0
      have ht2 := trim_le vv
      rw [us_bs] at HT1 HT2
      unfold fieldOf at hst
      obtain ⟨nm, hnm⟩ : ∃ nm, nm = trim n0 := ⟨_, rfl⟩
      obtain ⟨va, hva⟩ : ∃ va, va = trim vv := ⟨_, rfl⟩
      rw [← hnm] at HT1 hst ht1
      rw [← hva] at HT2 hst ht2
      clear hnm hva
      obtain ⟨VA, hVA⟩ : ∃ VA, VA = bs va := ⟨_, rfl⟩
      have hVs : VA.size = va.length := by rw [hVA, size_bs]
      have HVu := Lib.hid (show us VA = va by rw [hVA, us_bs])
      rw [← hVA] at HT2
      clear hVA
      have HO := Lib.hid hown
      have HB := Lib.hid hB
      clear hown hB
      cases hq : opens 34 va with
      | true =>
        rw [if_pos hq] at hst
        obtain ⟨hz0, t1⟩ := opens_yes VA 34 (by rw [HVu.out]; exact hq)
        clear hq
        replace t1 : ((VA[0].toNat : Int) == 34) = true := t1
        have HU := Lib.hid (fun wx => unquoteR_c VA (by omega) wx)
        rw [HVu.out] at HU
        have hul := unquote_len va
        obtain ⟨qp, hqp⟩ : ∃ qp, qp = unquote va := ⟨_, rfl⟩
        rw [← hqp] at HU hst hul
        clear hqp
        obtain ⟨t, qe⟩ := qp
        dsimp only at HU hst hul
        cases hqe : (qe != 0) with
        | true =>
          rw [if_neg (by simpa using hqe)] at hst
          have HN := Lib.hid (HFB.out hst)
          clear hst
          go_wp2_with (first | (go_at_call 44; refine (HCT.out _).mono ?_; rintro e w1 ⟨rfl, hD⟩; have ho1 := HO.out.below (hD.below (B := wr.heap.size)) (Nat.le_refl _); have hb1' := HB.out.trans (hD.below (B := w.heap.size))) | (go_at_call 42; (first | ((with_reducible refine (HT1.out _).mono ?_); rintro e wx ⟨rfl, rfl⟩) | ((with_reducible refine (HT2.out _).mono ?_); rintro e wx ⟨rfl, rfl⟩))) | (go_at_call 68; refine (HU.out _).mono ?_; rintro e w2 ⟨rfl, hC0⟩; have ho2 := ho1.below hC0 (Nat.le_refl _); have hb2 := hb1'.trans (hC0.mono hb1'.size)))
          go_ret2
          exact ⟨_, by rw [HN.out]; rfl, .inl ⟨⟨_, _, rfl⟩, by rw [HN.out]⟩, Fresh.nil _ _ _, hb2⟩
        | false =>
          rw [if_pos (by simpa using hqe)] at hst
          cases has with
          | true =>
            have HC1 := Lib.hid (fun wx hx => mayR_c u4 L ⟨nm, t, true⟩ (by dsimp only; omega) (by dsimp only; omega) wx hx (fun p hp => by have := HBL.out p hp; omega))
            unfold pv sv at HC1
            dsimp only at HC1
            unfold chk at hst
            cases hmay : mayS L ⟨nm, t, true⟩ with
            | false =>
              rw [hmay, if_neg (by decide)] at hst
              have HN := Lib.hid (HFB.out hst)
              rw [hmay] at HC1
              clear hst hmay
              go_wp2_with (first | (go_at_call 44; refine (HCT.out _).mono ?_; rintro e w1 ⟨rfl, hD⟩; have ho1 := HO.out.below (hD.below (B := wr.heap.size)) (Nat.le_refl _); have hb1' := HB.out.trans (hD.below (B := w.heap.size))) | (go_at_call 42; (first | ((with_reducible refine (HT1.out _).mono ?_); rintro e wx ⟨rfl, rfl⟩) | ((with_reducible refine (HT2.out _).mono ?_); rintro e wx ⟨rfl, rfl⟩))) | (go_at_call 68; refine (HU.out _).mono ?_; rintro e w2 ⟨rfl, hC0⟩; have ho2 := ho1.below hC0 (Nat.le_refl _); have hb2 := hb1'.trans (hC0.mono hb1'.size)) | (go_at_call 70; refine (HC1.out _ (ho2.read.below ((Below.refl _ _).alloc (Nat.le_refl _) _) (Nat.le_refl _))).mono ?_; rintro e w3 ⟨rfl, hC⟩; obtain ⟨r0, r1, r2, hz1, hB1⟩ := box3 hC; clear hC; have ho3 := ho2.below hB1 (Nat.le_refl _); have hb3 := hb2.trans (hB1.mono hb2.size)))
              go_ret2
              exact ⟨_, by rw [HN.out]; rfl, .inl ⟨⟨_, _, rfl⟩, by rw [HN.out]⟩, Fresh.nil _ _ _, hb3⟩
            | true =>
              rw [hmay, if_pos rfl] at hst
              have HS := Lib.hid (show fieldsGo [] Ps = fieldsGo (L ++ [⟨nm, t, true⟩]) (Ps.drop (k + 1)) from hst)
              have HLN := Lib.hid (mayS_len hmay).1
              rw [hmay] at HC1
              clear hst hmay
              go_wp2_with (first | (go_at_call 44; refine (HCT.out _).mono ?_; rintro e w1 ⟨rfl, hD⟩; have ho1 := HO.out.below (hD.below (B := wr.heap.size)) (Nat.le_refl _); have hb1' := HB.out.trans (hD.below (B := w.heap.size))) | (go_at_call 42; (first | ((with_reducible refine (HT1.out _).mono ?_); rintro e wx ⟨rfl, rfl⟩) | ((with_reducible refine (HT2.out _).mono ?_); rintro e wx ⟨rfl, rfl⟩))) | (go_at_call 68; refine (HU.out _).mono ?_; rintro e w2 ⟨rfl, hC0⟩; have ho2 := ho1.below hC0 (Nat.le_refl _); have hb2 := hb1'.trans (hC0.mono hb1'.size)) | (go_at_call 70; refine (HC1.out _ (ho2.read.below ((Below.refl _ _).alloc (Nat.le_refl _) _) (Nat.le_refl _))).mono ?_; rintro e w3 ⟨rfl, hC⟩; obtain ⟨r0, r1, r2, hz1, hB1⟩ := box3 hC; clear hC; have ho3 := ho2.below hB1 (Nat.le_refl _); have hb3 := hb2.trans (hB1.mono hb2.size)) | (at_builtin; refine wpList_appP1 ⟨nm, t, true⟩ (us_bs _) (us_bs _) rfl rfl rfl Tryd.underlying54 infoP rfl rfl ho3 hb3 (Nat.le_refl _) ?_ ?_; (focus omega); intro v4 w4 ho4 hb4))
              go_roundw
              case rel =>
                exact ⟨k + 1, L ++ [⟨nm, t, true⟩], by omega, by go_num, ho4, by rw [List.length_append]; exact Nat.succ_le_succ hl, fun p hp => by
                  rcases List.mem_append.1 hp with h | h
                  · exact HBL.out p h
                  · rw [List.mem_singleton.1 h]; exact HLN.out, HS.out, hb4⟩
              case measure => simp [intOf]; omega
          | false =>
            have HC1 := Lib.hid (fun wx hx => mayR_c u4 L ⟨nm, t, false⟩ (by dsimp only; omega) (by dsimp only; omega) wx hx (fun p hp => by have := HBL.out p hp; omega))
            unfold pv sv at HC1
            dsimp only at HC1
            unfold chk at hst
            cases hmay : mayS L ⟨nm, t, false⟩ with
            | false =>
              rw [hmay, if_neg (by decide)] at hst
              have HN := Lib.hid (HFB.out hst)
              rw [hmay] at HC1
              clear hst hmay
              go_wp2_with (first | (go_at_call 44; refine (HCT.out _).mono ?_; rintro e w1 ⟨rfl, hD⟩; have ho1 := HO.out.below (hD.below (B := wr.heap.size)) (Nat.le_refl _); have hb1' := HB.out.trans (hD.below (B := w.heap.size))) | (go_at_call 42; (first | ((with_reducible refine (HT1.out _).mono ?_); rintro e wx ⟨rfl, rfl⟩) | ((with_reducible refine (HT2.out _).mono ?_); rintro e wx ⟨rfl, rfl⟩))) | (go_at_call 68; refine (HU.out _).mono ?_; rintro e w2 ⟨rfl, hC0⟩; have ho2 := ho1.below hC0 (Nat.le_refl _); have hb2 := hb1'.trans (hC0.mono hb1'.size)) | (go_at_call 70; refine (HC1.out _ (ho2.read.below ((Below.refl _ _).alloc (Nat.le_refl _) _) (Nat.le_refl _))).mono ?_; rintro e w3 ⟨rfl, hC⟩; obtain ⟨r0, r1, r2, hz1, hB1⟩ := box3 hC; clear hC; have ho3 := ho2.below hB1 (Nat.le_refl _); have hb3 := hb2.trans (hB1.mono hb2.size)))
              go_ret2
              exact ⟨_, by rw [HN.out]; rfl, .inl ⟨⟨_, _, rfl⟩, by rw [HN.out]⟩, Fresh.nil _ _ _, hb3⟩
            | true =>
              rw [hmay, if_pos rfl] at hst
              have HS := Lib.hid (show fieldsGo [] Ps = fieldsGo (L ++ [⟨nm, t, false⟩]) (Ps.drop (k + 1)) from hst)
              have HLN := Lib.hid (mayS_len hmay).1
              rw [hmay] at HC1
              clear hst hmay
              go_wp2_with (first | (go_at_call 44; refine (HCT.out _).mono ?_; rintro e w1 ⟨rfl, hD⟩; have ho1 := HO.out.below (hD.below (B := wr.heap.size)) (Nat.le_refl _); have hb1' := HB.out.trans (hD.below (B := w.heap.size))) | (go_at_call 42; (first | ((with_reducible refine (HT1.out _).mono ?_); rintro e wx ⟨rfl, rfl⟩) | ((with_reducible refine (HT2.out _).mono ?_); rintro e wx ⟨rfl, rfl⟩))) | (go_at_call 68; refine (HU.out _).mono ?_; rintro e w2 ⟨rfl, hC0⟩; have ho2 := ho1.below hC0 (Nat.le_refl _); have hb2 := hb1'.trans (hC0.mono hb1'.size)) | (go_at_call 70; refine (HC1.out _ (ho2.read.below ((Below.refl _ _).alloc (Nat.le_refl _) _) (Nat.le_refl _))).mono ?_; rintro e w3 ⟨rfl, hC⟩; obtain ⟨r0, r1, r2, hz1, hB1⟩ := box3 hC; clear hC; have ho3 := ho2.below hB1 (Nat.le_refl _); have hb3 := hb2.trans (hB1.mono hb2.size)) | (at_builtin; refine wpList_appP1 ⟨nm, t, false⟩ (us_bs _) (us_bs _) rfl rfl rfl Tryd.underlying54 infoP rfl rfl ho3 hb3 (Nat.le_refl _) ?_ ?_; (focus omega); intro v4 w4 ho4 hb4))
              go_roundw
              case rel =>
                exact ⟨k + 1, L ++ [⟨nm, t, false⟩], by omega, by go_num, ho4, by rw [List.length_append]; exact Nat.succ_le_succ hl, fun p hp => by
                  rcases List.mem_append.1 hp with h | h
                  · exact HBL.out p h
                  · rw [List.mem_singleton.1 h]; exact HLN.out, HS.out, hb4⟩
              case measure => simp [intOf]; omega
      | false =>
        rw [if_neg (by rw [hq]; decide)] at hst
        have ho := opens_no VA 34 (by rw [HVu.out]; exact hq)
        clear hq
        replace ho : VA.size = 0 ∨ ∃ h : 0 < VA.size, ((VA[0].toNat : Int) == 34) = false := ho
        rcases ho with hz0 | ⟨hz0, t1⟩
        all_goals
          cases has with
          | false =>
            rw [if_neg (fun h => by cases h.1)] at hst
            have HC1 := Lib.hid (fun wx hx => mayR_c u4 L ⟨nm, va, false⟩ (by dsimp only; omega) (by dsimp only; omega) wx hx (fun p hp => by have := HBL.out p hp; omega))
            unfold pv sv at HC1
            dsimp only at HC1
            rw [show bs va = VA by rw [← HVu.out, bs_us]] at HC1
            unfold chk at hst
            cases hmay : mayS L ⟨nm, va, false⟩ with
            | false =>
              rw [hmay, if_neg (by decide)] at hst
              have HN := Lib.hid (HFB.out hst)
              rw [hmay] at HC1
              clear hst hmay
              go_wp2_with (first | (go_at_call 44; refine (HCT.out _).mono ?_; rintro e w1 ⟨rfl, hD⟩; have ho1 := HO.out.below (hD.below (B := wr.heap.size)) (Nat.le_refl _); have hb1' := HB.out.trans (hD.below (B := w.heap.size))) | (go_at_call 42; (first | ((with_reducible refine (HT1.out _).mono ?_); rintro e wx ⟨rfl, rfl⟩) | ((with_reducible refine (HT2.out _).mono ?_); rintro e wx ⟨rfl, rfl⟩))) | (go_at_call 70; refine (HC1.out _ (ho1.read.below ((Below.refl _ _).alloc (Nat.le_refl _) _) (Nat.le_refl _))).mono ?_; rintro e w3 ⟨rfl, hC⟩; obtain ⟨r0, r1, r2, hz1, hB1⟩ := box3 hC; clear hC; have ho3 := ho1.below hB1 (Nat.le_refl _); have hb3 := hb1'.trans (hB1.mono hb1'.size)))
              go_ret2
              exact ⟨_, by rw [HN.out]; rfl, .inl ⟨⟨_, _, rfl⟩, by rw [HN.out]⟩, Fresh.nil _ _ _, hb3⟩
            | true =>
              rw [hmay, if_pos rfl] at hst
              have HS := Lib.hid (show fieldsGo [] Ps = fieldsGo (L ++ [⟨nm, va, false⟩]) (Ps.drop (k + 1)) from hst)
              have HLN := Lib.hid (mayS_len hmay).1
              rw [hmay] at HC1
              clear hst hmay
              go_wp2_with (first | (go_at_call 44; refine (HCT.out _).mono ?_; rintro e w1 ⟨rfl, hD⟩; have ho1 := HO.out.below (hD.below (B := wr.heap.size)) (Nat.le_refl _); have hb1' := HB.out.trans (hD.below (B := w.heap.size))) | (go_at_call 42; (first | ((with_reducible refine (HT1.out _).mono ?_); rintro e wx ⟨rfl, rfl⟩) | ((with_reducible refine (HT2.out _).mono ?_); rintro e wx ⟨rfl, rfl⟩))) | (go_at_call 70; refine (HC1.out _ (ho1.read.below ((Below.refl _ _).alloc (Nat.le_refl _) _) (Nat.le_refl _))).mono ?_; rintro e w3 ⟨rfl, hC⟩; obtain ⟨r0, r1, r2, hz1, hB1⟩ := box3 hC; clear hC; have ho3 := ho1.below hB1 (Nat.le_refl _); have hb3 := hb1'.trans (hB1.mono hb1'.size)) | (at_builtin; refine wpList_appP1 ⟨nm, va, false⟩ (us_bs _) HVu.out rfl rfl rfl Tryd.underlying54 infoP rfl rfl ho3 hb3 (Nat.le_refl _) ?_ ?_; (focus omega); intro v4 w4 ho4 hb4))
              go_roundw
              case rel =>
                exact ⟨k + 1, L ++ [⟨nm, va, false⟩], by omega, by go_num, ho4, by rw [List.length_append]; exact Nat.succ_le_succ hl, fun p hp => by
                  rcases List.mem_append.1 hp with h | h
                  · exact HBL.out p h
                  · rw [List.mem_singleton.1 h]; exact HLN.out, HS.out, hb4⟩
              case measure => simp [intOf]; omega
          | true =>
            have HWD := Lib.hid (fun wx => wordR_c VA (by omega) wx)
            rw [HVu.out] at HWD
            cases hwd : wordS va with
            | false =>
              rw [if_pos ⟨rfl, hwd⟩] at hst
              rw [hwd] at HWD
              have HN := Lib.hid (HFB.out hst)
              clear hst hwd
              go_wp2_with (first | (go_at_call 44; refine (HCT.out _).mono ?_; rintro e w1 ⟨rfl, hD⟩; have ho1 := HO.out.below (hD.below (B := wr.heap.size)) (Nat.le_refl _); have hb1' := HB.out.trans (hD.below (B := w.heap.size))) | (go_at_call 42; (first | ((with_reducible refine (HT1.out _).mono ?_); rintro e wx ⟨rfl, rfl⟩) | ((with_reducible refine (HT2.out _).mono ?_); rintro e wx ⟨rfl, rfl⟩))) | (go_at_call 69; refine (HWD.out _).mono ?_; rintro e w2 ⟨rfl, hC0⟩; have ho2 := ho1.below hC0 (Nat.le_refl _); have hb2 := hb1'.trans (hC0.mono hb1'.size)))
              go_ret2
              exact ⟨_, by rw [HN.out]; rfl, .inl ⟨⟨_, _, rfl⟩, by rw [HN.out]⟩, Fresh.nil _ _ _, hb2⟩
            | true =>
              rw [if_neg (fun h => by rw [hwd] at h; cases h.2)] at hst
              rw [hwd] at HWD
              clear hwd
              have HC1 := Lib.hid (fun wx hx => mayR_c u4 L ⟨nm, va, true⟩ (by dsimp only; omega) (by dsimp only; omega) wx hx (fun p hp => by have := HBL.out p hp; omega))
              unfold pv sv at HC1
              dsimp only at HC1
              rw [show bs va = VA by rw [← HVu.out, bs_us]] at HC1
              unfold chk at hst
              cases hmay : mayS L ⟨nm, va, true⟩ with
              | false =>
                rw [hmay, if_neg (by decide)] at hst
                have HN := Lib.hid (HFB.out hst)
                rw [hmay] at HC1
                clear hst hmay
                go_wp2_with (first | (go_at_call 44; refine (HCT.out _).mono ?_; rintro e w1 ⟨rfl, hD⟩; have ho1 := HO.out.below (hD.below (B := wr.heap.size)) (Nat.le_refl _); have hb1' := HB.out.trans (hD.below (B := w.heap.size))) | (go_at_call 42; (first | ((with_reducible refine (HT1.out _).mono ?_); rintro e wx ⟨rfl, rfl⟩) | ((with_reducible refine (HT2.out _).mono ?_); rintro e wx ⟨rfl, rfl⟩))) | (go_at_call 69; refine (HWD.out _).mono ?_; rintro e w2 ⟨rfl, hC0⟩; have ho2 := ho1.below hC0 (Nat.le_refl _); have hb2 := hb1'.trans (hC0.mono hb1'.size)) | (go_at_call 70; refine (HC1.out _ (ho2.read.below ((Below.refl _ _).alloc (Nat.le_refl _) _) (Nat.le_refl _))).mono ?_; rintro e w3 ⟨rfl, hC⟩; obtain ⟨r0, r1, r2, hz1, hB1⟩ := box3 hC; clear hC; have ho3 := ho2.below hB1 (Nat.le_refl _); have hb3 := hb2.trans (hB1.mono hb2.size)))
                go_ret2
                exact ⟨_, by rw [HN.out]; rfl, .inl ⟨⟨_, _, rfl⟩, by rw [HN.out]⟩, Fresh.nil _ _ _, hb3⟩
              | true =>
                rw [hmay, if_pos rfl] at hst
                have HS := Lib.hid (show fieldsGo [] Ps = fieldsGo (L ++ [⟨nm, va, true⟩]) (Ps.drop (k + 1)) from hst)
                have HLN := Lib.hid (mayS_len hmay).1
                rw [hmay] at HC1
                clear hst hmay
                go_wp2_with (first | (go_at_call 44; refine (HCT.out _).mono ?_; rintro e w1 ⟨rfl, hD⟩; have ho1 := HO.out.below (hD.below (B := wr.heap.size)) (Nat.le_refl _); have hb1' := HB.out.trans (hD.below (B := w.heap.size))) | (go_at_call 42; (first | ((with_reducible refine (HT1.out _).mono ?_); rintro e wx ⟨rfl, rfl⟩) | ((with_reducible refine (HT2.out _).mono ?_); rintro e wx ⟨rfl, rfl⟩))) | (go_at_call 69; refine (HWD.out _).mono ?_; rintro e w2 ⟨rfl, hC0⟩; have ho2 := ho1.below hC0 (Nat.le_refl _); have hb2 := hb1'.trans (hC0.mono hb1'.size)) | (go_at_call 70; refine (HC1.out _ (ho2.read.below ((Below.refl _ _).alloc (Nat.le_refl _) _) (Nat.le_refl _))).mono ?_; rintro e w3 ⟨rfl, hC⟩; obtain ⟨r0, r1, r2, hz1, hB1⟩ := box3 hC; clear hC; have ho3 := ho2.below hB1 (Nat.le_refl _); have hb3 := hb2.trans (hB1.mono hb2.size)) | (at_builtin; refine wpList_appP1 ⟨nm, va, true⟩ (us_bs _) HVu.out rfl rfl rfl Tryd.underlying54 infoP rfl rfl ho3 hb3 (Nat.le_refl _) ?_ ?_; (focus omega); intro v4 w4 ho4 hb4))
                go_roundw
                case rel =>
                  exact ⟨k + 1, L ++ [⟨nm, va, true⟩], by omega, by go_num, ho4, by rw [List.length_append]; exact Nat.succ_le_succ hl, fun p hp => by
                    rcases List.mem_append.1 hp with h | h
                    · exact HBL.out p h
                    · rw [List.mem_singleton.1 h]; exact HLN.out, HS.out, hb4⟩
                case measure => simp [intOf]; omega
    · obtain rfl : k = Ps.length := by omega
      have HE := Lib.hid (HFE.out L hp)
      clear hp
      go_wp2
      go_ret2
      exact ⟨_, by rw [HE.out]; rfl, by rw [HE.out]; exact hown.read, hown.fresh, hB⟩

end Go.Proofs.YteiafgoigfehgaaDoor
