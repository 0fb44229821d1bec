/-
  addr.Fields.
-/
import Derived.Test.YteiafgoigfehgaaDoorFields
namespace Go.Proofs.YteiafgoigfehgaaDoor
open Go.RowKit

/-- the box of a struct of three cells, behind a store to its middle and a call -/
theorem box3s {w2 w3 : World} {g : Nat} {a b c x : Value} (r0 : w2.cell? ⟨g, 0, none⟩ = some a) (r1 : w2.cell? ⟨g, 1, none⟩ = some b) (r2 : w2.cell? ⟨g, 2, none⟩ = some c) (hz : g < w2.heap.size)
    (hC : Below (w2.setCell ⟨g, 1, none⟩ x).heap.size (w2.setCell ⟨g, 1, none⟩ x) w3) :
    w3.cell? ⟨g, 0, none⟩ = some a ∧ w3.cell? ⟨g, 1, none⟩ = some x ∧ w3.cell? ⟨g, 2, none⟩ = some c ∧ g < w3.heap.size ∧ Below g w2 w3 := by
  have hs : (w2.setCell ⟨g, 1, none⟩ x).heap.size = w2.heap.size := by simp
  rw [hs] at hC
  refine ⟨?_, ?_, ?_, Nat.lt_of_lt_of_le hz (hs ▸ hC.size), ((Below.refl _ _).setCell (Nat.le_refl _) _).trans (hC.mono (Nat.le_of_lt hz))⟩
  · rw [hC.cell (p := ⟨g, 0, none⟩) hz, World.cell?_setCell_other w2 ⟨g, 1, none⟩ ⟨g, 0, none⟩ x (fun e => by injection e with _ e; cases e)]; exact r0
  · rw [hC.cell (p := ⟨g, 1, none⟩) hz]; exact World.cell?_setCell_same _ _ _ r1
  · rw [hC.cell (p := ⟨g, 2, none⟩) hz, World.cell?_setCell_other w2 ⟨g, 1, none⟩ ⟨g, 2, none⟩ x (fun e => by injection e with _ e; cases e)]; exact r2
theorem box3f {w w1 : World} {a b c : Value} {t : TypeId} (hC : Below (w.alloc (.cells #[a, b, c] t)).heap.size (w.alloc (.cells #[a, b, c] t)) w1) : w1.frozen? ⟨w.heap.size, 1, none⟩ = false := by
  have hs : (w.alloc (.cells #[a, b, c] t)).heap.size = w.heap.size + 1 := World.size_alloc _ _
  rw [hs] at hC
  exact (boxed hC).2.2.2.2.1

set_option maxRecDepth 100000 in
set_option maxHeartbeats 3200000 in
theorem fields_c (v0 : Value) (Ps : List (List UInt8)) (w : World) (hm : Ml w) (hv : RStrs w v0 Ps) (hbd : ∀ x ∈ Ps, x.length ≤ 4294967280) :
    Calls Tryd.prog 63 #[v0] w fun e w' => ∃ u, e = .returned (.tuple #[u, .int .i64 (fieldsS Ps).2]) ∧ RPrms w' u (fieldsS Ps).1 ∧ Fresh w.heap.size u ∧ Below w.heap.size w w' := by
  obtain ⟨ao, cap, rfl, hm1, c1⟩ := hv.form
  have C1 := Lib.hid c1
  have HBD := Lib.hid hbd
  have HM := Lib.hid hm
  clear c1 hv hbd hm
  unfold maxLen at hm1
  by_cases h16 : 16 < Ps.length
  · have HN := Lib.hid (show fieldsS Ps = ([], 4) by unfold fieldsS; rw [if_pos h16])
    go_enter Tryd.func63, Tryd.ntmps63
    go_wp2
    go_ret2
    exact ⟨_, by rw [HN.out]; rfl, .inl ⟨⟨_, _, rfl⟩, by rw [HN.out]⟩, Fresh.nil _ _ _, Below.refl _ _⟩
  have HFB := Lib.hid (fields_bad Ps (by omega))
  have HFE := Lib.hid (fun L => fields_end L Ps (by omega))
  go_enter Tryd.func63, Tryd.ntmps63
  go_wp2
  go_loopw [4, 19] (fun vo i wr => ∃ (k : Nat) (L : List Prm), k ≤ Ps.length ∧ i = .int .i64 k ∧ Prms wr w.heap.size vo L ∧ L.length ≤ k ∧ (∀ p ∈ L, p.name.length ≤ 64) ∧ fieldsGo [] Ps = fieldsGo L (Ps.drop k) ∧ Below w.heap.size w wr) (fun _ i _ => Ps.length - (intOf i).toNat)
  case atStart => exact ⟨0, [], Nat.zero_le _, rfl, Prms.nil _ _, Nat.le_refl _, by simp, rfl, Below.refl _ _⟩
  case round =>
    obtain ⟨k, L, hk, rfl, hown, hl, hbl, hp, hB⟩ := hrel
    have HBL := Lib.hid hbl; clear hbl
    by_cases hlt : k < Ps.length
    · have hst := fields_step L Ps k hlt hp
      obtain ⟨b, off, rfl, hb1, hc1⟩ := C1.out (by omega)
      have x1 : wr.cell? ⟨b, off + k, none⟩ = some (.string (bs Ps[k])) := by
        rw [hB.cell (p := ⟨b, off + k, none⟩) hb1]; exact hc1 k hlt
      have k0 : (0 : Int) ≤ (k : Int) := by omega
      have k1 : (k : Int) < (Ps.length : Int) := by omega
      have hxs := HBD.out _ (List.getElem_mem hlt)
      clear hc1 hp
      unfold field at hst
      have hcl := cutb_le 61 Ps[k]
      have hmr := HM.out.below hB
      have HCT := Lib.hid (cut_c (bs Ps[k]) (by rw [size_bs]; omega) 61 wr hmr)
      rw [us_bs] at HCT
      obtain ⟨c, hc⟩ : ∃ c, c = cutb 61 Ps[k] := ⟨_, rfl⟩
      rw [← hc] at HCT hst hcl
      clear hc
      obtain ⟨n0, vv, has⟩ := c
      dsimp only at hst hcl
      have HT1 := Lib.hid (fun wx => trim_c (bs n0) (by rw [size_bs]; omega) wx)
      have HT2 := Lib.hid (fun wx => trim_c (bs vv) (by rw [size_bs]; omega) wx)
      have ht1 := trim_le n0
      have ht2 := trim_le vv
      rw [us_bs] at HT1 HT2
      unfold fieldOf at hst
      obtain ⟨nm, hnm⟩ : ∃ nm, nm = trim n0 := ⟨_, rfl⟩
      obtain ⟨va, hva⟩ : ∃ va, va = trim vv := ⟨_, rfl⟩
      rw [← hnm] at HT1 hst ht1
      rw [← hva] at HT2 hst ht2
      clear hnm hva
      have HP := Lib.hid (fun wx => prefix_c (bs va) 34 wx)
      rw [us_bs] at HP
      have HMr := Lib.hid hmr
      have HO := Lib.hid hown
      have HB := Lib.hid hB
      clear hmr hown hB
      cases hq : opens 34 va with
      | true =>
        rw [hq] at hst HP
        rw [if_pos rfl] at hst
        clear hq
        have HU := Lib.hid (fun wx => unquote_c (bs va) (by rw [size_bs]; omega) wx)
        rw [us_bs] at HU
        have hul := unquote_len va
        obtain ⟨qp, hqp⟩ : ∃ qp, qp = unquote va := ⟨_, rfl⟩
        rw [← hqp] at HU hst hul
        clear hqp
        obtain ⟨t, qe⟩ := qp
        dsimp only at HU hst hul
        have HC1 := Lib.hid (fun wx hx => bad_c u4 L ⟨nm, t, has⟩ (by dsimp only; omega) (by dsimp only; omega) wx hx (fun p hp => by have := HBL.out p hp; omega))
        unfold pv sv at HC1
        dsimp only at HC1
        cases hqe : (qe != 0) with
        | true =>
          rw [if_neg (by simpa using hqe)] at hst
          have HN := Lib.hid (HFB.out hst)
          clear hst
          go_wp2_with (first | (go_at_call 39; refine (HCT.out).mono ?_; rintro e w1 ⟨rfl, hD⟩; have ho1 := HO.out.below (hD.below (B := wr.heap.size)) (Nat.le_refl _); have hb1' := HB.out.trans (hD.below (B := w.heap.size))) | (go_at_call 37; (first | ((with_reducible refine (HT1.out _).mono ?_); rintro e wx ⟨rfl, rfl⟩) | ((with_reducible refine (HT2.out _).mono ?_); rintro e wx ⟨rfl, rfl⟩))) | (go_at_call 76; refine (HP.out _).mono ?_; rintro e wx ⟨rfl, rfl⟩) | (go_at_call 77; refine (HU.out _).mono ?_; rintro e w2 ⟨rfl, hC⟩; have hf := box3f hC; obtain ⟨r0, r1, r2, hz1, hB1⟩ := box3 hC; clear hC; have hb2 := hb1'.trans (hB1.mono hb1'.size)))
          go_ret2
          exact ⟨_, by rw [HN.out]; rfl, .inl ⟨⟨_, _, rfl⟩, by rw [HN.out]⟩, Fresh.nil _ _ _, hb2⟩
        | false =>
          rw [if_pos (by simpa using hqe)] at hst
          cases has with
          | true =>
            unfold chk at hst
            cases hmay : mayS L ⟨nm, t, true⟩ with
            | false =>
              rw [hmay, if_neg (by decide)] at hst
              have HN := Lib.hid (HFB.out hst)
              rw [hmay] at HC1
              clear hst hmay
              go_wp2_with (first | (go_at_call 39; refine (HCT.out).mono ?_; rintro e w1 ⟨rfl, hD⟩; have ho1 := HO.out.below (hD.below (B := wr.heap.size)) (Nat.le_refl _); have hb1' := HB.out.trans (hD.below (B := w.heap.size))) | (go_at_call 37; (first | ((with_reducible refine (HT1.out _).mono ?_); rintro e wx ⟨rfl, rfl⟩) | ((with_reducible refine (HT2.out _).mono ?_); rintro e wx ⟨rfl, rfl⟩))) | (go_at_call 76; refine (HP.out _).mono ?_; rintro e wx ⟨rfl, rfl⟩) | (go_at_call 77; refine (HU.out _).mono ?_; rintro e w2 ⟨rfl, hC⟩; have hf := box3f hC; obtain ⟨r0, r1, r2, hz1, hB1⟩ := box3 hC; clear hC; have hb2 := hb1'.trans (hB1.mono hb1'.size)) | (go_at_call 71; refine (HC1.out _ (ho1.read.below (hB1.setCell (Nat.le_refl _) _) (Nat.le_refl _))).mono ?_; rintro e w3 ⟨rfl, hC2⟩; obtain ⟨r0', r1', r2', hz2, hB2⟩ := box3s r0 r1 r2 hz1 hC2; have hB3 := hB1.trans hB2; have ho3 := ho1.below hB3 (Nat.le_refl _); have hb3 := hb1'.trans (hB3.mono hb1'.size); clear hC2))
              go_ret2
              exact ⟨_, by rw [HN.out]; rfl, .inl ⟨⟨_, _, rfl⟩, by rw [HN.out]⟩, Fresh.nil _ _ _, hb3⟩
            | true =>
              rw [hmay, if_pos rfl] at hst
              have HS := Lib.hid (show fieldsGo [] Ps = fieldsGo (L ++ [⟨nm, t, true⟩]) (Ps.drop (k + 1)) from hst)
              have HLN := Lib.hid (mayS_len hmay).1
              rw [hmay] at HC1
              clear hst hmay
              go_wp2_with (first | (go_at_call 39; refine (HCT.out).mono ?_; rintro e w1 ⟨rfl, hD⟩; have ho1 := HO.out.below (hD.below (B := wr.heap.size)) (Nat.le_refl _); have hb1' := HB.out.trans (hD.below (B := w.heap.size))) | (go_at_call 37; (first | ((with_reducible refine (HT1.out _).mono ?_); rintro e wx ⟨rfl, rfl⟩) | ((with_reducible refine (HT2.out _).mono ?_); rintro e wx ⟨rfl, rfl⟩))) | (go_at_call 76; refine (HP.out _).mono ?_; rintro e wx ⟨rfl, rfl⟩) | (go_at_call 77; refine (HU.out _).mono ?_; rintro e w2 ⟨rfl, hC⟩; have hf := box3f hC; obtain ⟨r0, r1, r2, hz1, hB1⟩ := box3 hC; clear hC; have hb2 := hb1'.trans (hB1.mono hb1'.size)) | (go_at_call 71; refine (HC1.out _ (ho1.read.below (hB1.setCell (Nat.le_refl _) _) (Nat.le_refl _))).mono ?_; rintro e w3 ⟨rfl, hC2⟩; obtain ⟨r0', r1', r2', hz2, hB2⟩ := box3s r0 r1 r2 hz1 hC2; have hB3 := hB1.trans hB2; have ho3 := ho1.below hB3 (Nat.le_refl _); have hb3 := hb1'.trans (hB3.mono hb1'.size); clear hC2) | (at_builtin; refine wpList_appP1 ⟨nm, t, true⟩ (us_bs _) (us_bs _) rfl rfl rfl Tryd.underlying54 infoP rfl rfl ho3 hb3 (Nat.le_refl _) ?_ ?_; (focus omega); intro v4 w4 ho4 hb4))
              go_roundw
              case rel => exact ⟨k + 1, L ++ [⟨nm, t, true⟩], by omega, by go_num, ho4, by rw [List.length_append]; exact Nat.succ_le_succ hl, fun p hp => by
                    rcases List.mem_append.1 hp with h | h
                    · exact HBL.out p h
                    · rw [List.mem_singleton.1 h]; exact HLN.out, HS.out, hb4⟩
              case measure => simp [intOf]; omega
          | false =>
            unfold chk at hst
            cases hmay : mayS L ⟨nm, t, false⟩ with
            | false =>
              rw [hmay, if_neg (by decide)] at hst
              have HN := Lib.hid (HFB.out hst)
              rw [hmay] at HC1
              clear hst hmay
              go_wp2_with (first | (go_at_call 39; refine (HCT.out).mono ?_; rintro e w1 ⟨rfl, hD⟩; have ho1 := HO.out.below (hD.below (B := wr.heap.size)) (Nat.le_refl _); have hb1' := HB.out.trans (hD.below (B := w.heap.size))) | (go_at_call 37; (first | ((with_reducible refine (HT1.out _).mono ?_); rintro e wx ⟨rfl, rfl⟩) | ((with_reducible refine (HT2.out _).mono ?_); rintro e wx ⟨rfl, rfl⟩))) | (go_at_call 76; refine (HP.out _).mono ?_; rintro e wx ⟨rfl, rfl⟩) | (go_at_call 77; refine (HU.out _).mono ?_; rintro e w2 ⟨rfl, hC⟩; have hf := box3f hC; obtain ⟨r0, r1, r2, hz1, hB1⟩ := box3 hC; clear hC; have hb2 := hb1'.trans (hB1.mono hb1'.size)) | (go_at_call 71; refine (HC1.out _ (ho1.read.below (hB1.setCell (Nat.le_refl _) _) (Nat.le_refl _))).mono ?_; rintro e w3 ⟨rfl, hC2⟩; obtain ⟨r0', r1', r2', hz2, hB2⟩ := box3s r0 r1 r2 hz1 hC2; have hB3 := hB1.trans hB2; have ho3 := ho1.below hB3 (Nat.le_refl _); have hb3 := hb1'.trans (hB3.mono hb1'.size); clear hC2))
              go_ret2
              exact ⟨_, by rw [HN.out]; rfl, .inl ⟨⟨_, _, rfl⟩, by rw [HN.out]⟩, Fresh.nil _ _ _, hb3⟩
            | true =>
              rw [hmay, if_pos rfl] at hst
              have HS := Lib.hid (show fieldsGo [] Ps = fieldsGo (L ++ [⟨nm, t, false⟩]) (Ps.drop (k + 1)) from hst)
              have HLN := Lib.hid (mayS_len hmay).1
              rw [hmay] at HC1
              clear hst hmay
              go_wp2_with (first | (go_at_call 39; refine (HCT.out).mono ?_; rintro e w1 ⟨rfl, hD⟩; have ho1 := HO.out.below (hD.below (B := wr.heap.size)) (Nat.le_refl _); have hb1' := HB.out.trans (hD.below (B := w.heap.size))) | (go_at_call 37; (first | ((with_reducible refine (HT1.out _).mono ?_); rintro e wx ⟨rfl, rfl⟩) | ((with_reducible refine (HT2.out _).mono ?_); rintro e wx ⟨rfl, rfl⟩))) | (go_at_call 76; refine (HP.out _).mono ?_; rintro e wx ⟨rfl, rfl⟩) | (go_at_call 77; refine (HU.out _).mono ?_; rintro e w2 ⟨rfl, hC⟩; have hf := box3f hC; obtain ⟨r0, r1, r2, hz1, hB1⟩ := box3 hC; clear hC; have hb2 := hb1'.trans (hB1.mono hb1'.size)) | (go_at_call 71; refine (HC1.out _ (ho1.read.below (hB1.setCell (Nat.le_refl _) _) (Nat.le_refl _))).mono ?_; rintro e w3 ⟨rfl, hC2⟩; obtain ⟨r0', r1', r2', hz2, hB2⟩ := box3s r0 r1 r2 hz1 hC2; have hB3 := hB1.trans hB2; have ho3 := ho1.below hB3 (Nat.le_refl _); have hb3 := hb1'.trans (hB3.mono hb1'.size); clear hC2) | (at_builtin; refine wpList_appP1 ⟨nm, t, false⟩ (us_bs _) (us_bs _) rfl rfl rfl Tryd.underlying54 infoP rfl rfl ho3 hb3 (Nat.le_refl _) ?_ ?_; (focus omega); intro v4 w4 ho4 hb4))
              go_roundw
              case rel => exact ⟨k + 1, L ++ [⟨nm, t, false⟩], by omega, by go_num, ho4, by rw [List.length_append]; exact Nat.succ_le_succ hl, fun p hp => by
                    rcases List.mem_append.1 hp with h | h
                    · exact HBL.out p h
                    · rw [List.mem_singleton.1 h]; exact HLN.out, HS.out, hb4⟩
              case measure => simp [intOf]; omega
      | false =>
        rw [hq] at hst HP
        rw [if_neg (by decide)] at hst
        clear hq
        have HC1 := Lib.hid (fun wx hx => bad_c u4 L ⟨nm, va, has⟩ (by dsimp only; omega) (by dsimp only; omega) wx hx (fun p hp => by have := HBL.out p hp; omega))
        unfold pv sv at HC1
        dsimp only at HC1
        cases has with
        | false =>
          rw [if_neg (fun h => by cases h.1)] at hst
          unfold chk at hst
          cases hmay : mayS L ⟨nm, va, false⟩ with
          | false =>
            rw [hmay, if_neg (by decide)] at hst
            have HN := Lib.hid (HFB.out hst)
            rw [hmay] at HC1
            clear hst hmay
            go_wp2_with (first | (go_at_call 39; refine (HCT.out).mono ?_; rintro e w1 ⟨rfl, hD⟩; have ho1 := HO.out.below (hD.below (B := wr.heap.size)) (Nat.le_refl _); have hb1' := HB.out.trans (hD.below (B := w.heap.size))) | (go_at_call 37; (first | ((with_reducible refine (HT1.out _).mono ?_); rintro e wx ⟨rfl, rfl⟩) | ((with_reducible refine (HT2.out _).mono ?_); rintro e wx ⟨rfl, rfl⟩))) | (go_at_call 76; refine (HP.out _).mono ?_; rintro e wx ⟨rfl, rfl⟩) | (go_at_call 71; refine (HC1.out _ (ho1.read.below ((Below.refl _ _).alloc (Nat.le_refl _) _) (Nat.le_refl _))).mono ?_; rintro e w3 ⟨rfl, hC⟩; obtain ⟨r0, r1, r2, hz1, hB1⟩ := box3 hC; clear hC; have ho3 := ho1.below hB1 (Nat.le_refl _); have hb3 := hb1'.trans (hB1.mono hb1'.size)))
            go_ret2
            exact ⟨_, by rw [HN.out]; rfl, .inl ⟨⟨_, _, rfl⟩, by rw [HN.out]⟩, Fresh.nil _ _ _, hb3⟩
          | true =>
            rw [hmay, if_pos rfl] at hst
            have HS := Lib.hid (show fieldsGo [] Ps = fieldsGo (L ++ [⟨nm, va, false⟩]) (Ps.drop (k + 1)) from hst)
            have HLN := Lib.hid (mayS_len hmay).1
            rw [hmay] at HC1
            clear hst hmay
            go_wp2_with (first | (go_at_call 39; refine (HCT.out).mono ?_; rintro e w1 ⟨rfl, hD⟩; have ho1 := HO.out.below (hD.below (B := wr.heap.size)) (Nat.le_refl _); have hb1' := HB.out.trans (hD.below (B := w.heap.size))) | (go_at_call 37; (first | ((with_reducible refine (HT1.out _).mono ?_); rintro e wx ⟨rfl, rfl⟩) | ((with_reducible refine (HT2.out _).mono ?_); rintro e wx ⟨rfl, rfl⟩))) | (go_at_call 76; refine (HP.out _).mono ?_; rintro e wx ⟨rfl, rfl⟩) | (go_at_call 71; refine (HC1.out _ (ho1.read.below ((Below.refl _ _).alloc (Nat.le_refl _) _) (Nat.le_refl _))).mono ?_; rintro e w3 ⟨rfl, hC⟩; obtain ⟨r0, r1, r2, hz1, hB1⟩ := box3 hC; clear hC; have ho3 := ho1.below hB1 (Nat.le_refl _); have hb3 := hb1'.trans (hB1.mono hb1'.size)) | (at_builtin; refine wpList_appP1 ⟨nm, va, false⟩ (us_bs _) (us_bs _) rfl rfl rfl Tryd.underlying54 infoP rfl rfl ho3 hb3 (Nat.le_refl _) ?_ ?_; (focus omega); intro v4 w4 ho4 hb4))
            go_roundw
            case rel => exact ⟨k + 1, L ++ [⟨nm, va, false⟩], by omega, by go_num, ho4, by rw [List.length_append]; exact Nat.succ_le_succ hl, fun p hp => by
                  rcases List.mem_append.1 hp with h | h
                  · exact HBL.out p h
                  · rw [List.mem_singleton.1 h]; exact HLN.out, HS.out, hb4⟩
            case measure => simp [intOf]; omega
        | true =>
          have HWD := Lib.hid (fun wx hx => word_c (bs va) (by rw [size_bs]; omega) wx hx)
          rw [us_bs] at HWD
          cases hwd : wordS va with
          | false =>
            rw [if_pos ⟨rfl, hwd⟩] at hst
            rw [hwd] at HWD
            have HN := Lib.hid (HFB.out hst)
            clear hst hwd
            go_wp2_with (first | (go_at_call 39; refine (HCT.out).mono ?_; rintro e w1 ⟨rfl, hD⟩; have ho1 := HO.out.below (hD.below (B := wr.heap.size)) (Nat.le_refl _); have hb1' := HB.out.trans (hD.below (B := w.heap.size))) | (go_at_call 37; (first | ((with_reducible refine (HT1.out _).mono ?_); rintro e wx ⟨rfl, rfl⟩) | ((with_reducible refine (HT2.out _).mono ?_); rintro e wx ⟨rfl, rfl⟩))) | (go_at_call 76; refine (HP.out _).mono ?_; rintro e wx ⟨rfl, rfl⟩) | (go_at_call 72; refine (HWD.out _ (HM.out.below (hb1'.alloc hb1'.size _))).mono ?_; rintro e w2 ⟨rfl, hC⟩; obtain ⟨r0, r1, r2, hz1, hB1⟩ := box3 hC; clear hC; have ho2 := ho1.below hB1 (Nat.le_refl _); have hb2 := hb1'.trans (hB1.mono hb1'.size)))
            go_ret2
            exact ⟨_, by rw [HN.out]; rfl, .inl ⟨⟨_, _, rfl⟩, by rw [HN.out]⟩, Fresh.nil _ _ _, hb2⟩
          | true =>
            rw [if_neg (fun h => by rw [hwd] at h; cases h.2)] at hst
            rw [hwd] at HWD
            clear hwd
            unfold chk at hst
            cases hmay : mayS L ⟨nm, va, true⟩ with
            | false =>
              rw [hmay, if_neg (by decide)] at hst
              have HN := Lib.hid (HFB.out hst)
              rw [hmay] at HC1
              clear hst hmay
              go_wp2_with (first | (go_at_call 39; refine (HCT.out).mono ?_; rintro e w1 ⟨rfl, hD⟩; have ho1 := HO.out.below (hD.below (B := wr.heap.size)) (Nat.le_refl _); have hb1' := HB.out.trans (hD.below (B := w.heap.size))) | (go_at_call 37; (first | ((with_reducible refine (HT1.out _).mono ?_); rintro e wx ⟨rfl, rfl⟩) | ((with_reducible refine (HT2.out _).mono ?_); rintro e wx ⟨rfl, rfl⟩))) | (go_at_call 76; refine (HP.out _).mono ?_; rintro e wx ⟨rfl, rfl⟩) | (go_at_call 72; refine (HWD.out _ (HM.out.below (hb1'.alloc hb1'.size _))).mono ?_; rintro e w2 ⟨rfl, hC⟩; obtain ⟨r0, r1, r2, hz1, hB1⟩ := box3 hC; clear hC; have ho2 := ho1.below hB1 (Nat.le_refl _); have hb2 := hb1'.trans (hB1.mono hb1'.size)) | (go_at_call 71; refine (HC1.out _ ho2.read).mono ?_; rintro e w3 ⟨rfl, hC2⟩; obtain ⟨r0', r1', r2', hz2⟩ := box3n r0 r1 r2 hz1 hC2; have ho3 := ho2.below hC2 (Nat.le_refl _); have hb3 := hb2.trans (hC2.mono hb2.size); clear hC2))
              go_ret2
              exact ⟨_, by rw [HN.out]; rfl, .inl ⟨⟨_, _, rfl⟩, by rw [HN.out]⟩, Fresh.nil _ _ _, hb3⟩
            | true =>
              rw [hmay, if_pos rfl] at hst
              have HS := Lib.hid (show fieldsGo [] Ps = fieldsGo (L ++ [⟨nm, va, true⟩]) (Ps.drop (k + 1)) from hst)
              have HLN := Lib.hid (mayS_len hmay).1
              rw [hmay] at HC1
              clear hst hmay
              go_wp2_with (first | (go_at_call 39; refine (HCT.out).mono ?_; rintro e w1 ⟨rfl, hD⟩; have ho1 := HO.out.below (hD.below (B := wr.heap.size)) (Nat.le_refl _); have hb1' := HB.out.trans (hD.below (B := w.heap.size))) | (go_at_call 37; (first | ((with_reducible refine (HT1.out _).mono ?_); rintro e wx ⟨rfl, rfl⟩) | ((with_reducible refine (HT2.out _).mono ?_); rintro e wx ⟨rfl, rfl⟩))) | (go_at_call 76; refine (HP.out _).mono ?_; rintro e wx ⟨rfl, rfl⟩) | (go_at_call 72; refine (HWD.out _ (HM.out.below (hb1'.alloc hb1'.size _))).mono ?_; rintro e w2 ⟨rfl, hC⟩; obtain ⟨r0, r1, r2, hz1, hB1⟩ := box3 hC; clear hC; have ho2 := ho1.below hB1 (Nat.le_refl _); have hb2 := hb1'.trans (hB1.mono hb1'.size)) | (go_at_call 71; refine (HC1.out _ ho2.read).mono ?_; rintro e w3 ⟨rfl, hC2⟩; obtain ⟨r0', r1', r2', hz2⟩ := box3n r0 r1 r2 hz1 hC2; have ho3 := ho2.below hC2 (Nat.le_refl _); have hb3 := hb2.trans (hC2.mono hb2.size); clear hC2) | (at_builtin; refine wpList_appP1 ⟨nm, va, true⟩ (us_bs _) (us_bs _) rfl rfl rfl Tryd.underlying54 infoP rfl rfl ho3 hb3 (Nat.le_refl _) ?_ ?_; (focus omega); intro v4 w4 ho4 hb4))
              go_roundw
              case rel => exact ⟨k + 1, L ++ [⟨nm, va, true⟩], by omega, by go_num, ho4, by rw [List.length_append]; exact Nat.succ_le_succ hl, fun p hp => by
                  rcases List.mem_append.1 hp with h | h
                  · exact HBL.out p h
                  · rw [List.mem_singleton.1 h]; exact HLN.out, HS.out, hb4⟩
              case measure => simp [intOf]; omega
    · obtain rfl : k = Ps.length := by omega
      have HE := Lib.hid (HFE.out L hp)
      clear hp
      go_wp2
      go_ret2
      exact ⟨_, by rw [HE.out]; rfl, by rw [HE.out]; exact hown.read, hown.fresh, hB⟩

end Go.Proofs.YteiafgoigfehgaaDoor
