/- Contracts of Go functions, and plain laws. No condition but those told. -/
import Derived.Test.YtipdiddjhimdcaaGreatDoorRZ01
import Derived.Lib.QuietBelow
import Derived.BigQuiet
set_option linter.unusedSimpArgs false
set_option linter.unusedVariables false
set_option maxRecDepth 100000
namespace Go.Proofs.YtipdiddjhimdcaaGreatDoor
section
open Go.RowKit
theorem wordR_c (s : ByteArray) (hs : s.size ≤ 4294967280) (w : World) :
  Calls Tryz.prog 168 #[.string s] w fun e w' => e = .returned (.bool (wordS (us s))) ∧ Below w.heap.size w w' := by
 have HT := κ (fun wx => tokenR_c s (by omega) wx)
 have hR : Below w.heap.size w w := Below.refl _ _
 have hsz : (bs (lowr (us s))).size = s.size := by rw [size_bs, lowr_length, length_us]
 have HL := κ (fun wx => lowerR_c s (by omega) wx)
 have HH := κ (fun wx => hostR_c (bs (lowr (us s))) (by omega) wx)
 rw [us_bs] at HH
 have HW := κ (show wordS (us s) = (token (us s) || hostS (lowr (us s))) from rfl)
 obtain ⟨lo, hlo⟩ : ∃ lo, lo = bs (lowr (us s)) := ⟨_, rfl⟩
 rw [← hlo] at HL HH
 clear hsz hlo
 cases ht : token (us s) with
 | true =>
  rw [ht] at HT HW; clear ht
  go_enter Tryz.func168, Tryz.ntmps168
  go_wp2_with (go_at_call 65; refine (HT.out _).mono ?_; rintro e wx ⟨rfl, rfl⟩)
  go_ret
  exact ⟨ret_bool (by rw [HW.out]; rfl), hR⟩
 | false =>
  rw [ht] at HT HW; clear ht
  go_enter Tryz.func168, Tryz.ntmps168
  go_wp2_with (first | (go_at_call 65; refine (HT.out _).mono ?_; rintro e wx ⟨rfl, rfl⟩) | (go_at_call 123; refine (HL.out _).mono ?_; rintro e w1 ⟨rfl, hC⟩) | (go_at_call 165; refine (HH.out _).mono ?_; rintro e w2 ⟨rfl, hC2⟩))
  go_ret
  exact ⟨ret_bool (by rw [HW.out]; rfl), hC.trans (hC2.mono hC.size)⟩
theorem place_neg (L : List Prm) (name : List UInt8) : decide (place L name < 0) = !(value L name).2 := by
 unfold place value
 rcases place_value name L 0 with ⟨h1, h2⟩ | ⟨j, hj, h1, h2⟩
 ·rw [h1, h2]; rfl
 ·rw [h1, h2]; simp
set_option maxHeartbeats 1600000 in
theorem mayR_c (v : Value) (L : List Prm) (p : Prm) (hn : p.name.length ≤ 4294967280) (hv : p.value.length ≤ 4294967280) (w : World) (h1 : RPrms w v L) (hb : ∀ p ∈ L, p.name.length ≤ 140737488355328) :
  Calls Tryz.prog 167 #[v, pv p] w fun e w' => e = .returned (.bool (mayS L p)) ∧ Below w.heap.size w w' := by
 have F1 := may_token L p
 have F2 := may_twice L p
 have F3 := may_long L p
 have F4 := may_quote L p
 have F5 := may_has L p
 have F6 := may_yes L p
 have HT := κ (fun wx => tokenR_c (bs p.name) (by rw [size_bs]; omega) wx)
 have HQ := κ (fun wx => quoteR_c (bs p.value) (by rw [size_bs]; omega) wx)
 have HV := κ (fun wx (hx : RPrms wx v L) => place_c v L (bs p.name) (by rw [size_bs]; omega) wx hx hb)
 have H1 := κ h1
 have hsz : (bs p.value).size = p.value.length := size_bs _
 rw [us_bs] at HT HQ HV
 have hnil : p.value = [] ↔ (bs p.value).size = 0 := by rw [size_bs, List.length_eq_zero_iff]
 rw [hnil] at F5 F6
 rw [← hsz] at F3 F6 hv
 obtain ⟨m, hm⟩ : ∃ m, m = mayS L p := ⟨_, rfl⟩
 rw [← hm] at F1 F2 F3 F4 F5 F6 ⊢
 clear hm hb h1 hsz hnil
 unfold pv sv
 obtain ⟨N, hN⟩ : ∃ N, N = bs p.name := ⟨_, rfl⟩
 obtain ⟨V, hV⟩ : ∃ V, V = bs p.value := ⟨_, rfl⟩
 rw [← hN] at HT HV ⊢
 rw [← hV] at HQ F3 F5 F6 hv ⊢
 obtain ⟨q, hq⟩ : ∃ q, q = quote p.value := ⟨_, rfl⟩
 rw [← hq] at HQ F4 F6
 have hpl := place_neg L p.name
 obtain ⟨tw, htw⟩ : ∃ tw, tw = value L p.name := ⟨_, rfl⟩
 rw [← htw] at hpl F2 F6
 obtain ⟨pl, hplx⟩ : ∃ pl, pl = place L p.name := ⟨_, rfl⟩
 rw [← hplx] at HV hpl
 obtain ⟨tk, htk⟩ : ∃ tk, tk = token p.name := ⟨_, rfl⟩
 rw [← htk] at HT F1 F6
 obtain ⟨pn, pv, h⟩ := p
 dsimp only at F1 F2 F3 F4 F5 F6 HT HV HQ ⊢
 clear hN hV hq htw htk hn hplx
 obtain ⟨qs, qe⟩ := q
 obtain ⟨tv, tb⟩ := tw
 dsimp only at F2 F4 F6 HQ hpl
 have hcase : (tk = false ∧ m = false) ∨ (tk = true ∧ ¬ pl < 0 ∧ m = false) ∨ (tk = true ∧ pl < 0 ∧ ¬ V.size ≤ 64 ∧ m = false) ∨ (tk = true ∧ pl < 0 ∧ V.size ≤ 64 ∧ (qe == 0) = false ∧ m = false) ∨
   (tk = true ∧ pl < 0 ∧ V.size ≤ 64 ∧ (qe == 0) = true ∧ h = true ∧ m = true) ∨ (tk = true ∧ pl < 0 ∧ V.size ≤ 64 ∧ (qe == 0) = true ∧ h = false ∧ ¬ V.size = 0 ∧ m = false) ∨ (tk = true ∧ pl < 0 ∧ (qe == 0) = true ∧ h = false ∧ V.size = 0 ∧ m = true) := by
  cases tk
  ·exact .inl ⟨rfl, F1 rfl⟩
  refine .inr ?_
  by_cases hp : pl < 0
  case neg => exact .inl ⟨rfl, hp, F2 (by rw [decide_eq_false hp] at hpl; simpa using hpl.symm)⟩
  have htb : tb = false := by rw [decide_eq_true hp] at hpl; simpa using hpl.symm
  refine .inr ?_
  by_cases hl : V.size ≤ 64
  case neg => exact .inl ⟨rfl, hp, hl, F3 hl⟩
  refine .inr ?_
  cases hq : (qe == 0)
  ·exact .inl ⟨rfl, hp, hl, rfl, F4 hq⟩
  refine .inr ?_
  cases h
  ·refine .inr ?_
   by_cases hz : V.size = 0
   ·exact .inr ⟨rfl, hp, rfl, rfl, hz, F6 rfl htb hl hq (.inr hz)⟩
   ·exact .inl ⟨rfl, hp, hl, rfl, rfl, hz, F5 rfl hz⟩
  ·exact .inl ⟨rfl, hp, hl, rfl, rfl, F6 rfl htb hl hq (.inl rfl)⟩
 clear F1 F2 F3 F4 F5 F6 hpl
 rcases hcase with ⟨rfl, rfl⟩ | ⟨rfl, hp, rfl⟩ | ⟨rfl, hp, hl, rfl⟩ | ⟨rfl, hp, hl, hqe, rfl⟩ | ⟨rfl, hp, hl, hqe, rfl, rfl⟩ | ⟨rfl, hp, hl, hqe, rfl, hz, rfl⟩ | ⟨rfl, hp, hqe, rfl, hz, rfl⟩
 case inr.inr.inr.inr.inr.inl =>
  have pE := ne_empty hz
  have pF := isEmpty_f hz
  go_enter Tryz.func167, Tryz.ntmps167
  go_wp2_with (first | (go_at_call 65; refine (HT.out _).mono ?_; rintro e wx ⟨rfl, rfl⟩) | (go_at_call 169; refine (HV.out _ (H1.out.below hB1 (ρ _))).mono ?_; rintro e w2 ⟨rfl, hC2⟩; obtain ⟨r0', r1', r2', hz2⟩ := box3n r0 r1 r2 hz1 hC2; have hB2 := hB1.trans (hC2.mono (Nat.le_of_lt hz1)); clear hC2) | (go_at_call 118; refine (HQ.out _).mono ?_; rintro e w1 ⟨rfl, hC⟩; obtain ⟨r0, r1, r2, hz1, hB1⟩ := box3 hC; clear hC))
  go_ret
  exact ⟨ret_bool (by first | rfl | simp), hB2⟩
 case inr.inr.inr.inr.inr.inr =>
  obtain rfl := eq_empty hz
  clear hz
  go_enter Tryz.func167, Tryz.ntmps167
  go_wp2_with (first | (go_at_call 65; refine (HT.out _).mono ?_; rintro e wx ⟨rfl, rfl⟩) | (go_at_call 169; refine (HV.out _ (H1.out.below hB1 (ρ _))).mono ?_; rintro e w2 ⟨rfl, hC2⟩; obtain ⟨r0', r1', r2', hz2⟩ := box3n r0 r1 r2 hz1 hC2; have hB2 := hB1.trans (hC2.mono (Nat.le_of_lt hz1)); clear hC2) | (go_at_call 118; refine (HQ.out _).mono ?_; rintro e w1 ⟨rfl, hC⟩; obtain ⟨r0, r1, r2, hz1, hB1⟩ := box3 hC; clear hC))
  go_ret
  exact ⟨ret_bool (by first | rfl | simp), hB2⟩
 case inl =>
  go_enter Tryz.func167, Tryz.ntmps167
  go_wp2_with (first | (go_at_call 65; refine (HT.out _).mono ?_; rintro e wx ⟨rfl, rfl⟩) | (go_at_call 169; refine (HV.out _ (H1.out.below hB1 (ρ _))).mono ?_; rintro e w2 ⟨rfl, hC2⟩; obtain ⟨r0', r1', r2', hz2⟩ := box3n r0 r1 r2 hz1 hC2; have hB2 := hB1.trans (hC2.mono (Nat.le_of_lt hz1)); clear hC2) | (go_at_call 118; refine (HQ.out _).mono ?_; rintro e w1 ⟨rfl, hC⟩; obtain ⟨r0, r1, r2, hz1, hB1⟩ := box3 hC; clear hC))
  go_ret
  exact ⟨ret_bool (by first | rfl | simp), hB1⟩
 all_goals
  go_enter Tryz.func167, Tryz.ntmps167
  go_wp2_with (first | (go_at_call 65; refine (HT.out _).mono ?_; rintro e wx ⟨rfl, rfl⟩) | (go_at_call 169; refine (HV.out _ (H1.out.below hB1 (ρ _))).mono ?_; rintro e w2 ⟨rfl, hC2⟩; obtain ⟨r0', r1', r2', hz2⟩ := box3n r0 r1 r2 hz1 hC2; have hB2 := hB1.trans (hC2.mono (Nat.le_of_lt hz1)); clear hC2) | (go_at_call 118; refine (HQ.out _).mono ?_; rintro e w1 ⟨rfl, hC⟩; obtain ⟨r0, r1, r2, hz1, hB1⟩ := box3 hC; clear hC))
  go_ret
  exact ⟨ret_bool (by first | rfl | simp | (simp; omega)), hB2⟩
end
section
open Go.RowKit
end
section
open Go.RowKit
theorem opens_yes (V : ByteArray) (n : UInt8) (h : opens n (us V) = true) : ∃ h : 0 < V.size, ((V[0].toNat : Int) == (n.toNat : Int)) = true := by
 rcases Nat.eq_zero_or_pos V.size with h0 | h0
 ·rw [List.eq_nil_of_length_eq_zero ((length_us V).trans h0)] at h; cases h
 ·refine ⟨h0, ?_⟩
  have := drop_us V 0 h0
  rw [List.drop_zero] at this
  rw [this] at h
  simp only [opens, beq_iff_eq] at h
  simp [h]
theorem opens_no (V : ByteArray) (n : UInt8) (h : opens n (us V) = false) : V.size = 0 ∨ ∃ h : 0 < V.size, ((V[0].toNat : Int) == (n.toNat : Int)) = false := by
 rcases Nat.eq_zero_or_pos V.size with h0 | h0
 ·exact .inl h0
 ·refine .inr ⟨h0, ?_⟩
  have := drop_us V 0 h0
  rw [List.drop_zero] at this
  rw [this] at h
  simp only [opens, beq_eq_false_iff_ne] at h
  rw [beq_eq_false_iff_ne]; omega
set_option maxHeartbeats 3200000 in
theorem fieldsR_c (v0 : Value) (Ps : List (List UInt8)) (w : World) (hv : RStrs w v0 Ps) (hbd : ∀ x ∈ Ps, x.length ≤ 4294967280) :
  Calls Tryz.prog 134 #[v0] w fun e w' => ∃ u, e = .returned (.tuple #[u, .int .i64 (fieldsS Ps).2]) ∧ RPrms w' u (fieldsS Ps).1 ∧ Fresh w.heap.size u ∧ Below w.heap.size w w' := by
 obtain ⟨ao, cap, rfl, hm1, c1⟩ := hv.form
 have C1 := κ c1
 have HBD := κ hbd
 clear c1 hv hbd
 unfold maxLen at hm1
 by_cases h16 : 16 < Ps.length
 ·have HN := κ (show fieldsS Ps = ([], 4) by unfold fieldsS; rw [if_pos h16])
  go_enter Tryz.func134, Tryz.ntmps134
  go_wp2
  go_ret2
  exact ⟨_, by rw [HN.out]; rfl, .inl ⟨⟨_, _, rfl⟩, by rw [HN.out]⟩, Fresh.nil _ _ _, Below.refl _ _⟩
 have HFB := κ (fields_bad Ps (by omega))
 have HFE := κ (fun L => fields_end L Ps (by omega))
 go_enter Tryz.func134, Tryz.ntmps134
 go_wp2
 go_loopw [4, 5] (fun vo i wr => ∃ (k : Nat) (L : List Prm), k ≤ Ps.length ∧ i = .int .i64 k ∧ Prms wr w.heap.size vo L ∧ L.length ≤ k ∧ (∀ p ∈ L, p.name.length ≤ 64) ∧ fieldsGo [] Ps = fieldsGo L (Ps.drop k) ∧ Below w.heap.size w wr) (fun _ i _ => Ps.length - (intOf i).toNat)
 case atStart => exact ⟨0, [], Nat.zero_le _, rfl, Prms.nil _ _, ρ _, by simp, rfl, Below.refl _ _⟩
 case round =>
  obtain ⟨k, L, hk, rfl, hown, hl, hbl, hp, hB⟩ := hrel
  have HBL := κ hbl; clear hbl
  by_cases hlt : k < Ps.length
  ·have hst := fields_step L Ps k hlt hp
   obtain ⟨b, off, rfl, hb1, hc1⟩ := C1.out (by omega)
   have x1 : wr.cell? ⟨b, off + k, none⟩ = some (.string (bs Ps[k])) := by
    rw [hB.cell (p := ⟨b, off + k, none⟩) hb1]; exact hc1 k hlt
   have k0 : (0 : Int) ≤ (k : Int) := by omega
   have k1 : (k : Int) < (Ps.length : Int) := by omega
   have hxs := HBD.out _ (List.getElem_mem hlt)
   clear hc1 hp
   unfold field at hst
   have hcl := cutb_le 61 Ps[k]
   have HCT := κ (fun wx => cutR_c (bs Ps[k]) (by rw [size_bs]; omega) 61 wx)
   rw [us_bs] at HCT
   obtain ⟨c, hc⟩ : ∃ c, c = cutb 61 Ps[k] := ⟨_, rfl⟩
   rw [← hc] at HCT hst hcl
   clear hc
   obtain ⟨n0, vv, has⟩ := c
   dsimp only at hst hcl
   have HT1 := κ (fun wx => trimR_c (bs n0) (by rw [size_bs]; omega) wx)
   have HT2 := κ (fun wx => trimR_c (bs vv) (by rw [size_bs]; omega) wx)
   have ht1 := trim_le n0
   have ht2 := trim_le vv
   rw [us_bs] at HT1 HT2
   unfold fieldOf at hst
   obtain ⟨nm, hnm⟩ : ∃ nm, nm = trim n0 := ⟨_, rfl⟩
   obtain ⟨va, hva⟩ : ∃ va, va = trim vv := ⟨_, rfl⟩
   rw [← hnm] at HT1 hst ht1
   rw [← hva] at HT2 hst ht2
   clear hnm hva
   obtain ⟨VA, hVA⟩ : ∃ VA, VA = bs va := ⟨_, rfl⟩
   have hVs : VA.size = va.length := by rw [hVA, size_bs]
   have HVu := κ (show us VA = va by rw [hVA, us_bs])
   rw [← hVA] at HT2
   clear hVA
   have HO := κ hown
   have HB := κ hB
   clear hown hB
   cases hq : opens 34 va with
   | true =>
    rw [if_pos hq] at hst
    obtain ⟨hz0, t1⟩ := opens_yes VA 34 (by rw [HVu.out]; exact hq)
    clear hq
    replace t1 : ((VA[0].toNat : Int) == 34) = true := t1
    have HU := κ (fun wx => unquoteR_c VA (by omega) wx)
    rw [HVu.out] at HU
    have hul := unquote_len va
    obtain ⟨qp, hqp⟩ : ∃ qp, qp = unquote va := ⟨_, rfl⟩
    rw [← hqp] at HU hst hul
    clear hqp
    obtain ⟨t, qe⟩ := qp
    dsimp only at HU hst hul
    cases hqe : (qe != 0) with
    | true =>
     rw [if_neg (by simpa using hqe)] at hst
     have HN := κ (HFB.out hst)
     clear hst
     go_wp2_with (first | (go_at_call 122; refine (HCT.out _).mono ?_; rintro e w1 ⟨rfl, hD⟩; have ho1 := HO.out.below (hD.below (B := wr.heap.size)) (ρ _); have hb1' := HB.out.trans (hD.below (B := w.heap.size))) | (go_at_call 130; (first | ((with_reducible refine (HT1.out _).mono ?_); rintro e wx ⟨rfl, rfl⟩) | ((with_reducible refine (HT2.out _).mono ?_); rintro e wx ⟨rfl, rfl⟩))) | (go_at_call 172; refine (HU.out _).mono ?_; rintro e w2 ⟨rfl, hC0⟩; have ho2 := ho1.below hC0 (ρ _); have hb2 := hb1'.trans (hC0.mono hb1'.size)))
     go_ret2
     exact ⟨_, by rw [HN.out]; rfl, .inl ⟨⟨_, _, rfl⟩, by rw [HN.out]⟩, Fresh.nil _ _ _, hb2⟩
    | false =>
     rw [if_pos (by simpa using hqe)] at hst
     cases has with
     | true =>
      have HC1 := κ (fun wx hx => mayR_c u4 L ⟨nm, t, true⟩ (by dsimp only; omega) (by dsimp only; omega) wx hx (fun p hp => by have := HBL.out p hp; omega))
      unfold pv sv at HC1
      dsimp only at HC1
      unfold chk at hst
      cases hmay : mayS L ⟨nm, t, true⟩ with
      | false =>
       rw [hmay, if_neg (by decide)] at hst
       have HN := κ (HFB.out hst)
       rw [hmay] at HC1
       clear hst hmay
       go_wp2_with (first | (go_at_call 122; refine (HCT.out _).mono ?_; rintro e w1 ⟨rfl, hD⟩; have ho1 := HO.out.below (hD.below (B := wr.heap.size)) (ρ _); have hb1' := HB.out.trans (hD.below (B := w.heap.size))) | (go_at_call 130; (first | ((with_reducible refine (HT1.out _).mono ?_); rintro e wx ⟨rfl, rfl⟩) | ((with_reducible refine (HT2.out _).mono ?_); rintro e wx ⟨rfl, rfl⟩))) | (go_at_call 172; refine (HU.out _).mono ?_; rintro e w2 ⟨rfl, hC0⟩; have ho2 := ho1.below hC0 (ρ _); have hb2 := hb1'.trans (hC0.mono hb1'.size)) | (go_at_call 167; refine (HC1.out _ (ho2.read.below ((Below.refl _ _).alloc (ρ _) _) (ρ _))).mono ?_; rintro e w3 ⟨rfl, hC⟩; obtain ⟨r0, r1, r2, hz1, hB1⟩ := box3 hC; clear hC; have ho3 := ho2.below hB1 (ρ _); have hb3 := hb2.trans (hB1.mono hb2.size)))
       go_ret2
       exact ⟨_, by rw [HN.out]; rfl, .inl ⟨⟨_, _, rfl⟩, by rw [HN.out]⟩, Fresh.nil _ _ _, hb3⟩
      | true =>
       rw [hmay, if_pos rfl] at hst
       have HS := κ (show fieldsGo [] Ps = fieldsGo (L ++ [⟨nm, t, true⟩]) (Ps.drop (k + 1)) from hst)
       have HLN := κ (mayS_len hmay).1
       rw [hmay] at HC1
       clear hst hmay
       go_wp2_with (first | (go_at_call 122; refine (HCT.out _).mono ?_; rintro e w1 ⟨rfl, hD⟩; have ho1 := HO.out.below (hD.below (B := wr.heap.size)) (ρ _); have hb1' := HB.out.trans (hD.below (B := w.heap.size))) | (go_at_call 130; (first | ((with_reducible refine (HT1.out _).mono ?_); rintro e wx ⟨rfl, rfl⟩) | ((with_reducible refine (HT2.out _).mono ?_); rintro e wx ⟨rfl, rfl⟩))) | (go_at_call 172; refine (HU.out _).mono ?_; rintro e w2 ⟨rfl, hC0⟩; have ho2 := ho1.below hC0 (ρ _); have hb2 := hb1'.trans (hC0.mono hb1'.size)) | (go_at_call 167; refine (HC1.out _ (ho2.read.below ((Below.refl _ _).alloc (ρ _) _) (ρ _))).mono ?_; rintro e w3 ⟨rfl, hC⟩; obtain ⟨r0, r1, r2, hz1, hB1⟩ := box3 hC; clear hC; have ho3 := ho2.below hB1 (ρ _); have hb3 := hb2.trans (hB1.mono hb2.size)) | (at_builtin; refine wpList_appP1 ⟨nm, t, true⟩ (us_bs _) (us_bs _) rfl rfl rfl Tryz.underlying22 infoP rfl rfl ho3 hb3 (ρ _) ?_ ?_; (focus omega); intro v4 w4 ho4 hb4))
       go_roundw
       case rel =>
        exact ⟨k + 1, L ++ [⟨nm, t, true⟩], by omega, by go_num, ho4, by rw [List.length_append]; exact Nat.succ_le_succ hl, fun p hp => by
         rcases List.mem_append.1 hp with h | h
         ·exact HBL.out p h
         ·rw [List.mem_singleton.1 h]; exact HLN.out, HS.out, hb4⟩
       case measure => simp [intOf]; omega
     | false =>
      have HC1 := κ (fun wx hx => mayR_c u4 L ⟨nm, t, false⟩ (by dsimp only; omega) (by dsimp only; omega) wx hx (fun p hp => by have := HBL.out p hp; omega))
      unfold pv sv at HC1
      dsimp only at HC1
      unfold chk at hst
      cases hmay : mayS L ⟨nm, t, false⟩ with
      | false =>
       rw [hmay, if_neg (by decide)] at hst
       have HN := κ (HFB.out hst)
       rw [hmay] at HC1
       clear hst hmay
       go_wp2_with (first | (go_at_call 122; refine (HCT.out _).mono ?_; rintro e w1 ⟨rfl, hD⟩; have ho1 := HO.out.below (hD.below (B := wr.heap.size)) (ρ _); have hb1' := HB.out.trans (hD.below (B := w.heap.size))) | (go_at_call 130; (first | ((with_reducible refine (HT1.out _).mono ?_); rintro e wx ⟨rfl, rfl⟩) | ((with_reducible refine (HT2.out _).mono ?_); rintro e wx ⟨rfl, rfl⟩))) | (go_at_call 172; refine (HU.out _).mono ?_; rintro e w2 ⟨rfl, hC0⟩; have ho2 := ho1.below hC0 (ρ _); have hb2 := hb1'.trans (hC0.mono hb1'.size)) | (go_at_call 167; refine (HC1.out _ (ho2.read.below ((Below.refl _ _).alloc (ρ _) _) (ρ _))).mono ?_; rintro e w3 ⟨rfl, hC⟩; obtain ⟨r0, r1, r2, hz1, hB1⟩ := box3 hC; clear hC; have ho3 := ho2.below hB1 (ρ _); have hb3 := hb2.trans (hB1.mono hb2.size)))
       go_ret2
       exact ⟨_, by rw [HN.out]; rfl, .inl ⟨⟨_, _, rfl⟩, by rw [HN.out]⟩, Fresh.nil _ _ _, hb3⟩
      | true =>
       rw [hmay, if_pos rfl] at hst
       have HS := κ (show fieldsGo [] Ps = fieldsGo (L ++ [⟨nm, t, false⟩]) (Ps.drop (k + 1)) from hst)
       have HLN := κ (mayS_len hmay).1
       rw [hmay] at HC1
       clear hst hmay
       go_wp2_with (first | (go_at_call 122; refine (HCT.out _).mono ?_; rintro e w1 ⟨rfl, hD⟩; have ho1 := HO.out.below (hD.below (B := wr.heap.size)) (ρ _); have hb1' := HB.out.trans (hD.below (B := w.heap.size))) | (go_at_call 130; (first | ((with_reducible refine (HT1.out _).mono ?_); rintro e wx ⟨rfl, rfl⟩) | ((with_reducible refine (HT2.out _).mono ?_); rintro e wx ⟨rfl, rfl⟩))) | (go_at_call 172; refine (HU.out _).mono ?_; rintro e w2 ⟨rfl, hC0⟩; have ho2 := ho1.below hC0 (ρ _); have hb2 := hb1'.trans (hC0.mono hb1'.size)) | (go_at_call 167; refine (HC1.out _ (ho2.read.below ((Below.refl _ _).alloc (ρ _) _) (ρ _))).mono ?_; rintro e w3 ⟨rfl, hC⟩; obtain ⟨r0, r1, r2, hz1, hB1⟩ := box3 hC; clear hC; have ho3 := ho2.below hB1 (ρ _); have hb3 := hb2.trans (hB1.mono hb2.size)) | (at_builtin; refine wpList_appP1 ⟨nm, t, false⟩ (us_bs _) (us_bs _) rfl rfl rfl Tryz.underlying22 infoP rfl rfl ho3 hb3 (ρ _) ?_ ?_; (focus omega); intro v4 w4 ho4 hb4))
       go_roundw
       case rel =>
        exact ⟨k + 1, L ++ [⟨nm, t, false⟩], by omega, by go_num, ho4, by rw [List.length_append]; exact Nat.succ_le_succ hl, fun p hp => by
         rcases List.mem_append.1 hp with h | h
         ·exact HBL.out p h
         ·rw [List.mem_singleton.1 h]; exact HLN.out, HS.out, hb4⟩
       case measure => simp [intOf]; omega
   | false =>
    rw [if_neg (by rw [hq]; decide)] at hst
    have ho := opens_no VA 34 (by rw [HVu.out]; exact hq)
    clear hq
    replace ho : VA.size = 0 ∨ ∃ h : 0 < VA.size, ((VA[0].toNat : Int) == 34) = false := ho
    rcases ho with hz0 | ⟨hz0, t1⟩
    all_goals
     cases has with
     | false =>
      rw [if_neg (fun h => by cases h.1)] at hst
      have HC1 := κ (fun wx hx => mayR_c u4 L ⟨nm, va, false⟩ (by dsimp only; omega) (by dsimp only; omega) wx hx (fun p hp => by have := HBL.out p hp; omega))
      unfold pv sv at HC1
      dsimp only at HC1
      rw [show bs va = VA by rw [← HVu.out, bs_us]] at HC1
      unfold chk at hst
      cases hmay : mayS L ⟨nm, va, false⟩ with
      | false =>
       rw [hmay, if_neg (by decide)] at hst
       have HN := κ (HFB.out hst)
       rw [hmay] at HC1
       clear hst hmay
       go_wp2_with (first | (go_at_call 122; refine (HCT.out _).mono ?_; rintro e w1 ⟨rfl, hD⟩; have ho1 := HO.out.below (hD.below (B := wr.heap.size)) (ρ _); have hb1' := HB.out.trans (hD.below (B := w.heap.size))) | (go_at_call 130; (first | ((with_reducible refine (HT1.out _).mono ?_); rintro e wx ⟨rfl, rfl⟩) | ((with_reducible refine (HT2.out _).mono ?_); rintro e wx ⟨rfl, rfl⟩))) | (go_at_call 167; refine (HC1.out _ (ho1.read.below ((Below.refl _ _).alloc (ρ _) _) (ρ _))).mono ?_; rintro e w3 ⟨rfl, hC⟩; obtain ⟨r0, r1, r2, hz1, hB1⟩ := box3 hC; clear hC; have ho3 := ho1.below hB1 (ρ _); have hb3 := hb1'.trans (hB1.mono hb1'.size)))
       go_ret2
       exact ⟨_, by rw [HN.out]; rfl, .inl ⟨⟨_, _, rfl⟩, by rw [HN.out]⟩, Fresh.nil _ _ _, hb3⟩
      | true =>
       rw [hmay, if_pos rfl] at hst
       have HS := κ (show fieldsGo [] Ps = fieldsGo (L ++ [⟨nm, va, false⟩]) (Ps.drop (k + 1)) from hst)
       have HLN := κ (mayS_len hmay).1
       rw [hmay] at HC1
       clear hst hmay
       go_wp2_with (first | (go_at_call 122; refine (HCT.out _).mono ?_; rintro e w1 ⟨rfl, hD⟩; have ho1 := HO.out.below (hD.below (B := wr.heap.size)) (ρ _); have hb1' := HB.out.trans (hD.below (B := w.heap.size))) | (go_at_call 130; (first | ((with_reducible refine (HT1.out _).mono ?_); rintro e wx ⟨rfl, rfl⟩) | ((with_reducible refine (HT2.out _).mono ?_); rintro e wx ⟨rfl, rfl⟩))) | (go_at_call 167; refine (HC1.out _ (ho1.read.below ((Below.refl _ _).alloc (ρ _) _) (ρ _))).mono ?_; rintro e w3 ⟨rfl, hC⟩; obtain ⟨r0, r1, r2, hz1, hB1⟩ := box3 hC; clear hC; have ho3 := ho1.below hB1 (ρ _); have hb3 := hb1'.trans (hB1.mono hb1'.size)) | (at_builtin; refine wpList_appP1 ⟨nm, va, false⟩ (us_bs _) HVu.out rfl rfl rfl Tryz.underlying22 infoP rfl rfl ho3 hb3 (ρ _) ?_ ?_; (focus omega); intro v4 w4 ho4 hb4))
       go_roundw
       case rel =>
        exact ⟨k + 1, L ++ [⟨nm, va, false⟩], by omega, by go_num, ho4, by rw [List.length_append]; exact Nat.succ_le_succ hl, fun p hp => by
         rcases List.mem_append.1 hp with h | h
         ·exact HBL.out p h
         ·rw [List.mem_singleton.1 h]; exact HLN.out, HS.out, hb4⟩
       case measure => simp [intOf]; omega
     | true =>
      have HWD := κ (fun wx => wordR_c VA (by omega) wx)
      rw [HVu.out] at HWD
      cases hwd : wordS va with
      | false =>
       rw [if_pos ⟨rfl, hwd⟩] at hst
       rw [hwd] at HWD
       have HN := κ (HFB.out hst)
       clear hst hwd
       go_wp2_with (first | (go_at_call 122; refine (HCT.out _).mono ?_; rintro e w1 ⟨rfl, hD⟩; have ho1 := HO.out.below (hD.below (B := wr.heap.size)) (ρ _); have hb1' := HB.out.trans (hD.below (B := w.heap.size))) | (go_at_call 130; (first | ((with_reducible refine (HT1.out _).mono ?_); rintro e wx ⟨rfl, rfl⟩) | ((with_reducible refine (HT2.out _).mono ?_); rintro e wx ⟨rfl, rfl⟩))) | (go_at_call 168; refine (HWD.out _).mono ?_; rintro e w2 ⟨rfl, hC0⟩; have ho2 := ho1.below hC0 (ρ _); have hb2 := hb1'.trans (hC0.mono hb1'.size)))
       go_ret2
       exact ⟨_, by rw [HN.out]; rfl, .inl ⟨⟨_, _, rfl⟩, by rw [HN.out]⟩, Fresh.nil _ _ _, hb2⟩
      | true =>
       rw [if_neg (fun h => by rw [hwd] at h; cases h.2)] at hst
       rw [hwd] at HWD
       clear hwd
       have HC1 := κ (fun wx hx => mayR_c u4 L ⟨nm, va, true⟩ (by dsimp only; omega) (by dsimp only; omega) wx hx (fun p hp => by have := HBL.out p hp; omega))
       unfold pv sv at HC1
       dsimp only at HC1
       rw [show bs va = VA by rw [← HVu.out, bs_us]] at HC1
       unfold chk at hst
       cases hmay : mayS L ⟨nm, va, true⟩ with
       | false =>
        rw [hmay, if_neg (by decide)] at hst
        have HN := κ (HFB.out hst)
        rw [hmay] at HC1
        clear hst hmay
        go_wp2_with (first | (go_at_call 122; refine (HCT.out _).mono ?_; rintro e w1 ⟨rfl, hD⟩; have ho1 := HO.out.below (hD.below (B := wr.heap.size)) (ρ _); have hb1' := HB.out.trans (hD.below (B := w.heap.size))) | (go_at_call 130; (first | ((with_reducible refine (HT1.out _).mono ?_); rintro e wx ⟨rfl, rfl⟩) | ((with_reducible refine (HT2.out _).mono ?_); rintro e wx ⟨rfl, rfl⟩))) | (go_at_call 168; refine (HWD.out _).mono ?_; rintro e w2 ⟨rfl, hC0⟩; have ho2 := ho1.below hC0 (ρ _); have hb2 := hb1'.trans (hC0.mono hb1'.size)) | (go_at_call 167; refine (HC1.out _ (ho2.read.below ((Below.refl _ _).alloc (ρ _) _) (ρ _))).mono ?_; rintro e w3 ⟨rfl, hC⟩; obtain ⟨r0, r1, r2, hz1, hB1⟩ := box3 hC; clear hC; have ho3 := ho2.below hB1 (ρ _); have hb3 := hb2.trans (hB1.mono hb2.size)))
        go_ret2
        exact ⟨_, by rw [HN.out]; rfl, .inl ⟨⟨_, _, rfl⟩, by rw [HN.out]⟩, Fresh.nil _ _ _, hb3⟩
       | true =>
        rw [hmay, if_pos rfl] at hst
        have HS := κ (show fieldsGo [] Ps = fieldsGo (L ++ [⟨nm, va, true⟩]) (Ps.drop (k + 1)) from hst)
        have HLN := κ (mayS_len hmay).1
        rw [hmay] at HC1
        clear hst hmay
        go_wp2_with (first | (go_at_call 122; refine (HCT.out _).mono ?_; rintro e w1 ⟨rfl, hD⟩; have ho1 := HO.out.below (hD.below (B := wr.heap.size)) (ρ _); have hb1' := HB.out.trans (hD.below (B := w.heap.size))) | (go_at_call 130; (first | ((with_reducible refine (HT1.out _).mono ?_); rintro e wx ⟨rfl, rfl⟩) | ((with_reducible refine (HT2.out _).mono ?_); rintro e wx ⟨rfl, rfl⟩))) | (go_at_call 168; refine (HWD.out _).mono ?_; rintro e w2 ⟨rfl, hC0⟩; have ho2 := ho1.below hC0 (ρ _); have hb2 := hb1'.trans (hC0.mono hb1'.size)) | (go_at_call 167; refine (HC1.out _ (ho2.read.below ((Below.refl _ _).alloc (ρ _) _) (ρ _))).mono ?_; rintro e w3 ⟨rfl, hC⟩; obtain ⟨r0, r1, r2, hz1, hB1⟩ := box3 hC; clear hC; have ho3 := ho2.below hB1 (ρ _); have hb3 := hb2.trans (hB1.mono hb2.size)) | (at_builtin; refine wpList_appP1 ⟨nm, va, true⟩ (us_bs _) HVu.out rfl rfl rfl Tryz.underlying22 infoP rfl rfl ho3 hb3 (ρ _) ?_ ?_; (focus omega); intro v4 w4 ho4 hb4))
        go_roundw
        case rel =>
         exact ⟨k + 1, L ++ [⟨nm, va, true⟩], by omega, by go_num, ho4, by rw [List.length_append]; exact Nat.succ_le_succ hl, fun p hp => by
          rcases List.mem_append.1 hp with h | h
          ·exact HBL.out p h
          ·rw [List.mem_singleton.1 h]; exact HLN.out, HS.out, hb4⟩
        case measure => simp [intOf]; omega
  ·obtain rfl : k = Ps.length := by omega
   have HE := κ (HFE.out L hp)
   clear hp
   go_wp2
   go_ret2
   exact ⟨_, by rw [HE.out]; rfl, by rw [HE.out]; exact hown.read, hown.fresh, hB⟩
end
end Go.Proofs.YtipdiddjhimdcaaGreatDoor
namespace Go.Proofs.YtipdiddjhimdcaaGreatDoor
open Go.RowKit
set_option maxHeartbeats 6400000 in
theorem whereR_c (s : ByteArray) (hs : s.size ≤ 4294967280) (w : World) :
  Calls Tryz.prog 128 #[.string s] w fun e w' => e = .returned (.tuple #[.string (bs (whereS (us s)).1.1), .int .i64 (whereS (us s)).1.2, .int .i64 (whereS (us s)).2]) ∧ Below w.heap.size w w' := by
 obtain ⟨hEs, hW⟩ := where_is s
 obtain ⟨E, hE⟩ : ∃ E, E = endW false (us s) := ⟨_, rfl⟩
 rw [← hE] at hEs hW
 have hlow : (lowr ((us s).take E)).length ≤ 4294967280 := by unfold lowr; rw [List.length_map, List.length_take, length_us]; omega
 have HL := κ (fun wx => lowerR_c (s.extract 0 E) (by rw [size_extract _ _ _ hEs]; omega) wx)
 rw [us_extract, Nat.sub_zero, List.drop_zero] at HL
 obtain ⟨L, hL⟩ : ∃ L, L = lowr ((us s).take E) := ⟨_, rfl⟩
 rw [← hL] at hW HL hlow
 obtain ⟨T, hT⟩ : ∃ T, T = bs L := ⟨_, rfl⟩
 have hTs : T.size ≤ 4294967280 := by rw [hT, size_bs]; exact hlow
 have HH := κ (fun wx => hostR_c T hTs wx)
 have uT : us T = L := by rw [hT, us_bs]
 rw [uT] at HH
 rw [← hT] at HL
 have HTd := κ hT
 have HP := κ (fun wx => numberR_c (s.extract (E + 1) s.size) (by (rw [← length_us, us_tail, List.length_drop, length_us]; omega)) 65535 (by decide) (by decide) wx)
 rw [us_tail] at HP
 have HB65 := κ (fun h => (number_bdV ((us s).drop (E + 1)) 65535 (by decide) h).1)
 obtain ⟨p, hp⟩ : ∃ p, p = number ((us s).drop (E + 1)) 65535 := ⟨_, rfl⟩
 rw [← hp] at hW HP HB65
 obtain ⟨R, hR⟩ : ∃ R, R = whereS (us s) := ⟨_, rfl⟩
 rw [← hR] at hW ⊢
 have HE := κ hE
 have hRf : Below w.heap.size w w := Below.refl _ _
 obtain ⟨pn, pe⟩ := p
 dsimp only at hW HP HB65
 clear hE hL hlow hT uT hp hR
 unfold WhrIs at hW
 dsimp only at hW
 have HW := κ hW
 clear hW
 go_enter Tryz.func128, Tryz.ntmps128
 go_wp2
 go_loop [5, 6] (fun i b => ∃ (k : Nat) (q : Bool), k ≤ s.size ∧ i = .int .i64 k ∧ b = .bool q ∧ endW false (us s) = endW q ((us s).drop k) + k) (fun i _ => s.size - (intOf i).toNat)
 case atStart => exact ⟨0, false, Nat.zero_le _, rfl, rfl, rfl⟩
 case round =>
  obtain ⟨k, q, hk, rfl, rfl, hp⟩ := hrel
  by_cases hlt : k < s.size
  ·by_cases hc : q = true ∨ s[k].toNat ≠ 58
   ·obtain ⟨x, hx⟩ : ∃ x, ((s[k].toNat : Int) == 91) = x := ⟨_, rfl⟩
    obtain ⟨y, hy⟩ : ∃ y, ((s[k].toNat : Int) == 93) = y := ⟨_, rfl⟩
    have hz : ((s[k].toNat : Int) != 93) = !y := by rw [← hy]; rfl
    have HB := κ (show endW false (us s) = endW (x || (q && !y)) ((us s).drop (k + 1)) + (k + 1) by rw [endW_step s k q hlt hc hp, show (s[k].toNat == 91) = x by (rw [← hx, Bool.eq_iff_iff, beq_iff_eq, beq_iff_eq]; omega), show (s[k].toNat == 93) = y by (rw [← hy, Bool.eq_iff_iff, beq_iff_eq, beq_iff_eq]; omega)])
    have h1 : q = false → ((s[k].toNat : Int) != 58) = true := by (rintro rfl; rcases hc with h | h; cases h; simp; omega)
    have hxy : (x && y) = false := by cases x <;> cases y <;> first | rfl | (rw [beq_iff_eq] at hx hy; omega)
    clear hc hp
    cases q
    ·have t1 := h1 rfl
     clear h1
     cases x <;> cases y <;> first | exact absurd hxy (by decide) | (clear hxy; go_wp2; go_round; (case rel => exact ⟨k + 1, _, by omega, by go_num, rfl, HB.out⟩); (case measure => simp [intOf]; omega))
    ·clear h1
     cases x <;> cases y <;> first | exact absurd hxy (by decide) | (clear hxy; go_wp2; go_round; (case rel => exact ⟨k + 1, _, by omega, by go_num, rfl, HB.out⟩); (case measure => simp [intOf]; omega))
   ·obtain ⟨rfl, h58⟩ : q = false ∧ s[k].toNat = 58 := by
     cases q
     ·exact ⟨rfl, by (by_cases h : s[k].toNat = 58; exact h; exact absurd (.inr h) hc)⟩
     ·exact absurd (.inl rfl) hc
    have hEk : E = k := HE.out.trans (endW_stop s k hlt h58 hp)
    have t1 : ((s[k].toNat : Int) != 58) = false := by simp [h58]
    clear hc h58 hp
    subst hEk
    have t5 : ((E : Int) == (s.size : Int)) = false := by (rw [beq_eq_false_iff_ne]; omega)
    rcases HW.out with ⟨hh, rfl⟩ | ⟨hh, hE2, rfl⟩ | ⟨hh, hE2, hn, rfl⟩ | ⟨hh, hE2, hn, rfl⟩ <;> rw [hh] at HH <;> (try omega) <;> clear hh HW
    all_goals first | (simp only [Bool.and_eq_true, beq_iff_eq, decide_eq_true_eq] at hn; obtain ⟨rfl, hn2⟩ := hn; have u0 : (pn == 0) = false := (by rw [beq_eq_false_iff_ne]; omega); clear hE2) | (rcases (show (pe != 0) = true ∨ ((pe != 0) = false ∧ (pn == 0) = true) from (if h : pe = 0 then .inr ⟨by simp [h], by (have h2 := HB65.out h; simp only [h, beq_self_eq_true, Bool.true_and, decide_eq_false_iff_not] at hn; rw [beq_iff_eq]; omega)⟩ else .inl (by simpa using h))) with u1 | ⟨u1, u2⟩ <;> clear hn hE2) | (clear hE2) | skip
    all_goals (go_wp2_with (first | (go_at_call 123; refine (HL.out _).mono ?_; rintro e w1 ⟨rfl, hB1⟩) | (go_at_call 165; refine (HH.out _).mono ?_; rintro e w2 ⟨rfl, hC2⟩; have hB2 := hB1.trans (hC2.mono hB1.size)) | (go_at_call 171; refine (HP.out _).mono ?_; rintro e w3 ⟨rfl, rfl⟩)); go_ret3; exact ⟨by first | rfl | (rw [HTd.out]; rfl), by first | exact hB2 | exact hB1⟩)
  ·have hEk : E = k := HE.out.trans (endW_end s k q hk hlt hp)
   clear hp
   subst hEk
   have t5 : ((E : Int) == (s.size : Int)) = true := by (rw [beq_iff_eq]; omega)
   rcases HW.out with ⟨hh, rfl⟩ | ⟨hh, hE2, rfl⟩ | ⟨hh, hE2, hn, rfl⟩ | ⟨hh, hE2, hn, rfl⟩ <;> rw [hh] at HH <;> (try omega) <;> clear hh HW
   all_goals first | (simp only [Bool.and_eq_true, beq_iff_eq, decide_eq_true_eq] at hn; obtain ⟨rfl, hn2⟩ := hn; have u0 : (pn == 0) = false := (by rw [beq_eq_false_iff_ne]; omega); clear hE2) | (rcases (show (pe != 0) = true ∨ ((pe != 0) = false ∧ (pn == 0) = true) from (if h : pe = 0 then .inr ⟨by simp [h], by (have h2 := HB65.out h; simp only [h, beq_self_eq_true, Bool.true_and, decide_eq_false_iff_not] at hn; rw [beq_iff_eq]; omega)⟩ else .inl (by simpa using h))) with u1 | ⟨u1, u2⟩ <;> clear hn hE2) | (clear hE2) | skip
   all_goals (go_wp2_with (first | (go_at_call 123; refine (HL.out _).mono ?_; rintro e w1 ⟨rfl, hB1⟩) | (go_at_call 165; refine (HH.out _).mono ?_; rintro e w2 ⟨rfl, hC2⟩; have hB2 := hB1.trans (hC2.mono hB1.size)) | (go_at_call 171; refine (HP.out _).mono ?_; rintro e w3 ⟨rfl, rfl⟩)); go_ret3; exact ⟨by first | rfl | (rw [HTd.out]; rfl), by first | exact hB2 | exact hB1⟩)
end Go.Proofs.YtipdiddjhimdcaaGreatDoor
namespace Go.Proofs.YtipdiddjhimdcaaGreatDoor
open Go.RowKit Go.Sort
set_option maxHeartbeats 1600000 in
theorem byVR_c (N : ByteArray) (x : Int) (u : Value) (F : List Prm) (hN : N.size ≤ 4294967280) (hx0 : -9223372036854775808 ≤ x) (hx1 : x ≤ 9223372036854775807) (w : World) (hu : RPrms w u F) :
  Calls Tryz.prog 77 #[.agg #[.string N, .int .i64 x, u]] w fun e w' => e = .returned (.string (bs (byV ⟨us N, x, F⟩))) ∧ Below w.heap.size w w' := by
 obtain ⟨ao, cap, rfl, _, _⟩ := hu.form
 clear hu
 have hdl : ∀ y : Int, (digits y).length ≤ 20 := by
  intro y
  have h0 : ∀ f m, (digF f m).length ≤ f := by
   intro f
   induction f with
   | zero => intro m; exact ρ _
   | succ f ih => intro m; rw [digF]; split <;> simp; have := ih (m / 10); omega
  unfold digits
  split
  ·decide
  ·exact h0 20 _
 have hB0 : Below w.heap.size w (w.alloc (.cells #[.string N, .int .i64 x, .slice ao F.length cap] 87)) := (Below.refl _ _).alloc (ρ _) _
 have bm := Blk.new w 87 #[.string N, .int .i64 x, .slice ao F.length cap]
 obtain ⟨w0, hw0⟩ : ∃ w0, w0 = w.alloc (.cells #[.string N, .int .i64 x, .slice ao F.length cap] 87) := ⟨_, rfl⟩
 rw [← hw0] at hB0 bm
 have HW0 := κ hw0
 clear hw0
 obtain ⟨p0, p1, p2, _, _, _, _⟩ := bm.f3
 by_cases hz : x = 0
 ·have t1 : (x == 0) = true := by simp [hz]
  have HTX := κ (show byV ⟨us N, x, F⟩ = us N ++ [58, 53, 48, 54, 48] by unfold byV; dsimp only; rw [if_pos hz]; rfl)
  clear hz hdl
  go_enter Tryz.func77, Tryz.ntmps77
  go_wp2
  go_ret
  refine ⟨?_, by rw [HW0.out] at hB0; exact hB0⟩
  rw [HTX.out]
  exact ret_s (by simp [us])
 ·have t1 : (x == 0) = false := by simp [hz]
  have hl := hdl x
  obtain ⟨D, hD⟩ : ∃ D, D = bs (digits x) := ⟨_, rfl⟩
  have uD : digits x = us D := by rw [hD, us_bs]
  have sD : D.size ≤ 20 := by rw [hD, size_bs]; exact hl
  have HTX := κ (show byV ⟨us N, x, F⟩ = us N ++ 58 :: us D by unfold byV; dsimp only; rw [if_neg hz, uD])
  have HD := κ (fun wx => digitsR_c x hx0 hx1 wx)
  rw [← hD] at HD
  clear hz hl hD uD hdl
  go_enter Tryz.func77, Tryz.ntmps77
  go_wp2
  rw [← HW0.out]
  go_quiet ((go_at_call 136; exact Calls.quiet_of (HD.out _)))
  go_wp2
  go_ret
  refine ⟨?_, hB0.trans (Drn.below ⟨_, rfl⟩)⟩
  rw [HTX.out]
  exact ret_s (by simp [us])
end Go.Proofs.YtipdiddjhimdcaaGreatDoor
