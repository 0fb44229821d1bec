/- Contracts of Go functions, and plain laws. No condition but those told. -/
import Derived.Test.YtgkilllbkljibaaGreatDoorRal
import Derived.Test.YtgkilllbkljibaaGreatDoorRdc
set_option linter.unusedSimpArgs false
set_option linter.unusedVariables false
set_option maxRecDepth 100000
namespace Go.Proofs.YtgkilllbkljibaaGreatDoor
open Go.RowKit Go.Sort
set_option maxRecDepth 100000 in
set_option maxHeartbeats 12800000 in
theorem piecesR_c (M TG RS B : ByteArray) (X : Int) (u : Value) (H : List Hdr) (nm : ByteArray) (hn : nm.size ≤ 140737488355328) (w : World) (hu : RHdrs w u H) (hb : ∀ h ∈ H, h.name.length ≤ 1048576 ∧ h.value.length ≤ 1048576) (hH : H.length ≤ 1048576) :
  Calls Tryz.prog 36 #[.agg #[.string M, .string TG, .int .i64 X, .string RS, u, .string B], .string nm] w fun e w' => ∃ v, e = .returned v ∧ Strs w' w.heap.size 9 v (piecesS H (us nm)) ∧ Below w.heap.size w w' := by
 have HU := κ hu
 obtain ⟨mo, mc, rfl, _, _⟩ := hu.form
 clear hu
 have HAL := κ (fun wx hx => allR_c' M TG RS B X (.slice mo H.length mc) H nm (by omega) wx hx (fun h hh => by have := hb h hh; omega) (by omega))
 have hVb : ∀ x ∈ allS H (us nm), x.length ≤ 1048576 := fun x hx => by
  obtain ⟨q, hq, rfl⟩ := allS_mem H (us nm) x hx
  exact (hb q hq).2
 have hVl := allS_len H (us nm)
 rw [pieces_eq]
 obtain ⟨VS, hVS⟩ : ∃ VS, VS = allS H (us nm) := ⟨_, rfl⟩
 rw [← hVS] at HAL hVb hVl ⊢
 have hVl2 : VS.length ≤ 1048576 := by omega
 have HVB := κ hVb
 clear hVS hVb hVl hb
 obtain ⟨A, hA⟩ : ∃ A, A = VS.flatMap ppT := ⟨_, rfl⟩
 rw [← hA]
 have HAd := κ hA
 clear hA
 go_enter Tryz.func36, Tryz.ntmps36
 go_upto_region 1 with fail
 refine any_world (R := Code.wp _ _ _ _) (fun x => Blk x w.heap.size 24 #[.string M, .string TG, .int .i64 X, .string RS, .slice mo H.length mc, .string B] ∧ Below w.heap.size w x) ⟨Blk.new w _ _, (Below.refl _ _).alloc (ρ _) _⟩ ?_
 rintro wq ⟨bm, hB0⟩
 go_wp2_with (first | ((with_reducible refine holdLoad 24 rfl ?_); unfold Hold; refine wpList_loadB rfl rfl rfl Tryz.underlying24 (by kernel_rfl) bm (whole _) ?_) | (go_at_call 63; refine (HAL.out _ (HU.out.below hB0 (ρ _))).mono ?_; rintro e w1 ⟨va, rfl, hva, hC1⟩; have HB1 := κ (hB0.trans (hC1.mono hB0.size)); have HVA := κ hva; obtain ⟨ao, cap, rfl, hm1, c1⟩ := hva.form; have C1 := κ c1; clear hva c1 hC1 hB0 bm))
 unfold maxLen at hm1
 go_loopw [5, 7] (fun v i wr => ∃ (j : Nat) (R : List (List UInt8)), j ≤ VS.length ∧ i = .int .i64 j ∧ Strs wr w1.heap.size 9 v R ∧ Hid (Below w1.heap.size w1 wr) ∧ R.length ≤ j * 1048577 ∧ Hid (A = R ++ (VS.drop j).flatMap ppT)) (fun _ i _ => VS.length - (intOf i).toNat)
 case atStart => exact ⟨0, [], Nat.zero_le _, rfl, Strs.nil _ _ _, κ (Below.refl _ _), Nat.zero_le _, κ (by rw [HAd.out]; rfl)⟩
 case round =>
  obtain ⟨j, R, hj, rfl, hown, HB, hR, HP⟩ := hrel
  by_cases hlt : j < VS.length
  ·obtain ⟨b, off, rfl, hb1, hc1⟩ := C1.out (by omega)
   have x0 : wr.cell? ⟨b, off + j, none⟩ = some (.string (bs VS[j])) := (HB.out.cell (p := ⟨b, off + j, none⟩) hb1).trans (hc1 j hlt)
   have hvj := HVB.out VS[j] (List.getElem_mem hlt)
   have HPC := κ (fun wx => partsRF_c (bs VS[j]) (by rw [size_bs]; omega) 44 wx)
   rw [us_bs] at HPC
   have hPb : ∀ y ∈ parts VS[j] 44, y.length ≤ 1048576 := fun y hy => Nat.le_trans (parts_bd 44 VS[j] y hy) hvj
   have hPn := parts_ne 44 VS[j]
   have hPl : (parts VS[j] 44).length ≤ 1048577 := by
    have h1 := parts_cnt 44 VS[j]
    omega
   have HP2 := κ (show A = R ++ ((parts VS[j] 44).map trim ++ (VS.drop (j + 1)).flatMap ppT) by rw [HP.out, List.drop_eq_getElem_cons hlt, List.flatMap_cons]; rfl)
   obtain ⟨P, hPd⟩ : ∃ P, P = parts VS[j] 44 := ⟨_, rfl⟩
   rw [← hPd] at HPC hPb hPn hPl HP2
   have HPBD := κ hPb
   have hP0 : 0 < P.length := by rcases Nat.eq_zero_or_pos P.length with h | h; exact absurd (List.eq_nil_of_length_eq_zero h) hPn; exact h
   obtain ⟨S, hS⟩ : ∃ S, S = bs VS[j] := ⟨_, rfl⟩
   rw [← hS] at x0 HPC
   have k0 : (0 : Int) ≤ (j : Int) := by omega
   have k9 : (j : Int) < (VS.length : Int) := by omega
   obtain ⟨ro, rc, rfl⟩ := row_formM hown
   have hol := hown.lt
   clear hPd hPb hPn hS hvj hc1 hb1 HP
   go_wp2_with (go_at_call 101; refine (HPC.out _).mono ?_; rintro e w2 ⟨vp, rfl, hvp, hC2⟩; have hown := hown.below hC2 (ρ _); have HB2 := κ (HB.out.trans (hC2.mono HB.out.size)); obtain ⟨ao2, cap2, rfl, hm2, c2⟩ := hvp.read.form; obtain ⟨b2, off2, rfl, hb2, _⟩ := c2 hP0; clear c2)
   unfold maxLen at hm2
   have hne0 : (Value.slice ro R.length rc).ownBlock ≠ some b2 := by
    intro e0
    have h1 := (hol b2 e0).2
    have h2 := hvp.lt b2 rfl
    omega
   obtain ⟨base2, hbase2⟩ : ∃ x, x = wr.heap.size := ⟨_, rfl⟩
   rw [← hbase2] at hvp
   have HV0 := κ hvp
   have HOW := κ hown
   have HNE := κ hne0
   clear hbase2 hvp hown x0 hb2 hol hne0
   go_loopw [5, 9] (fun v i wr => ∃ (k : Nat) (R : List (List UInt8)), k ≤ P.length ∧ i = .int .i64 k ∧ Strs wr w1.heap.size 9 v R ∧ Hid (Below w1.heap.size w1 wr) ∧ R.length ≤ j * 1048577 + k ∧ Strs wr base2 9 (.slice (some ⟨b2, off2, none⟩) P.length cap2) P ∧ Hid (v.ownBlock ≠ some b2) ∧ Hid (A = R ++ ((P.drop k).map trim ++ (VS.drop (j + 1)).flatMap ppT))) (fun _ i _ => P.length - (intOf i).toNat)
   case atStart => exact ⟨0, R, Nat.zero_le _, rfl, HOW.out, HB2, (by rw [Nat.add_zero]; exact hR), HV0.out, HNE, HP2⟩
   case round =>
    obtain ⟨k, R, hk, rfl, hown, HB, hR, hvp, HN, HP⟩ := hrel
    obtain ⟨ro, rc, rfl⟩ := row_formM hown
    by_cases hlt2 : k < P.length
    ·have x1 := hvp.at_ hlt2
     have hpk := HPBD.out P[k] (List.getElem_mem hlt2)
     have HT := κ (fun wx => trimR_c (bs P[k]) (by rw [size_bs]; omega) wx)
     rw [us_bs] at HT
     have HST := κ (show A = (R ++ [trim P[k]]) ++ ((P.drop (k + 1)).map trim ++ (VS.drop (j + 1)).flatMap ppT) by rw [HP.out, List.drop_eq_getElem_cons hlt2, List.map_cons, List.append_assoc]; rfl)
     obtain ⟨S2, hS2⟩ : ∃ S2, S2 = bs P[k] := ⟨_, rfl⟩
     rw [← hS2] at x1 HT
     obtain ⟨tp, htp⟩ : ∃ tp, tp = trim P[k] := ⟨_, rfl⟩
     rw [← htp] at HT HST
     obtain ⟨TS, hTS⟩ : ∃ TS, TS = bs tp := ⟨_, rfl⟩
     rw [← hTS] at HT
     have HTS := κ hTS
     have k1 : (0 : Int) ≤ (k : Int) := by omega
     have k2 : (k : Int) < (P.length : Int) := by omega
     have hrl : R.length ≤ 1099513724929 := Nat.le_trans hR (Nat.le_trans (Nat.add_le_add (Nat.mul_le_mul_right 1048577 (show j ≤ 1048576 by omega)) (show k ≤ 1048577 by omega)) (by decide))
     have hbw : w1.heap.size ≤ wr.heap.size := HB.out.size
     have hb2 : b2 < wr.heap.size := by
      have := hvp.lt b2 rfl
      omega
     clear hS2 htp hTS hpk HP
     go_wp2_with (first | (go_at_call 58; refine (HT.out _).mono ?_; rintro e w3 ⟨rfl, rfl⟩) | (at_builtin; refine wpList_appM rfl rfl Tryz.underlying35 infoS0 rfl (by decide) rfl rfl hown (by decide) rfl (by intro u hu; simp at hu; subst hu; rfl) (by decide) ?_ hbw ?_; (focus omega); intro v1 w4 ho1 hg1 ho2))
     have hBA := HB.out.alloc hbw (.cells #[.string TS] 9)
     have hB4 := hBA.grown hg1 (by rw [World.size_alloc]; omega) (fun x e => (hown.lt x e).1)
     have hv4 := (hvp.below ((Below.refl wr.heap.size wr).alloc (ρ _) (.cells #[.string TS] 9)) (ρ _)).other hg1 HN.out
     have hN4 : v1.ownBlock ≠ some b2 := by
      rcases ho2 with h | h
      ·rw [h]; exact HN.out
      ·rw [h, World.size_alloc]
       intro e
       injection e with e
       omega
     have hoN := Strs.add1 ho1 HTS.out
     go_roundw
     case rel => exact ⟨k + 1, R ++ [tp], by omega, by go_num, hoN, κ hB4, by rw [List.length_append]; exact Nat.succ_le_succ hR, hv4, κ hN4, HST⟩
     case measure => simp [intOf]; omega
    ·have HST := κ (show A = R ++ (VS.drop (j + 1)).flatMap ppT by rw [HP.out, List.drop_eq_nil_iff.2 (by omega)]; rfl)
     have hkk : k = P.length := by omega
     clear HP
     go_wp2
     go_roundw
     case rel => exact ⟨j + 1, R, by omega, by go_num, hown, HB, by rw [Nat.add_mul, Nat.one_mul]; exact Nat.le_trans hR (Nat.add_le_add_left (by rw [hkk]; exact hPl) _), HST⟩
     case measure => simp [intOf]; omega
  ·have HST := κ (show A = R by rw [HP.out, List.drop_eq_nil_iff.2 (by omega), List.flatMap_nil, List.append_nil])
   have HBF := κ (HB1.out.trans (HB.out.mono HB1.out.size))
   have HO := κ hown
   obtain ⟨ro, rc, rfl⟩ := row_formM hown
   clear HP
   go_wp2
   go_ret
   exact ⟨_, rfl, by rw [HST.out]; exact Strs.lower HO.out HB1.out.size, HBF.out⟩
end Go.Proofs.YtgkilllbkljibaaGreatDoor
