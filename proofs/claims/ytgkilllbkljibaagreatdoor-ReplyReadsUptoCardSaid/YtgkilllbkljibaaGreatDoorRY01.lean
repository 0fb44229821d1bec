/- Contracts of Go functions, and plain laws. No condition but those told. -/
import Derived.Test.YtgkilllbkljibaaGreatDoorRZ04
set_option linter.unusedSimpArgs false
set_option linter.unusedVariables false
set_option maxRecDepth 100000
namespace Go.Proofs.YtgkilllbkljibaaGreatDoor
section
open Go.RowKit
theorem timeR_c (s : ByteArray) (hs : s.size ≤ 9223372036854775807) (w : World) :
  Calls Tryz.prog 97 #[.string s] w fun e w' => e = .returned (.tuple #[.int .i64 (timeS (us s)).1, .int .i64 (timeS (us s)).2]) ∧ w = w' := by
 have lt : (trim (us s)).length ≤ s.size := by rw [← length_us]; exact trim_le (us s)
 have H1 := κ (fun wx => trimR_c s hs wx)
 have H2 := κ (fun wx => numberR_c (bs (trim (us s))) (by rw [size_bs]; omega) 2147483647 (by decide) (by decide) wx)
 rw [us_bs] at H2
 clear lt
 obtain ⟨p, hp⟩ : ∃ p, p = number (trim (us s)) 2147483647 := ⟨_, rfl⟩
 have HS := κ (show timeS (us s) = if p.2 = 9 then (2147483647, 0) else p by rw [hp]; rfl)
 rw [← hp] at H2
 clear hp
 obtain ⟨a, b⟩ := p
 cases h9 : (b == 9)
 all_goals
  go_enter Tryz.func97, Tryz.ntmps97
  go_wp2_with (first
   | (go_at_call 58; refine (H1.out _).mono ?_; rintro e wx ⟨rfl, rfl⟩)
   | (go_at_call 62; refine (H2.out _).mono ?_; rintro e wx ⟨rfl, rfl⟩))
  go_ret2
  have h9' := h9
  simp at h9'
  refine ⟨?_, rfl⟩
  rw [HS.out]
  simp [h9']
end
section
open Go.RowKit
theorem box2n {w1 w2 : World} {g : Nat} {a b : Value} (r0 : w1.cell? ⟨g, 0, none⟩ = some a) (r1 : w1.cell? ⟨g, 1, none⟩ = some b) (f0 : w1.frozen? ⟨g, 0, none⟩ = false) (f1 : w1.frozen? ⟨g, 1, none⟩ = false) (hz : g < w1.heap.size) (hC : Below w1.heap.size w1 w2) :
  w2.cell? ⟨g, 0, none⟩ = some a ∧ w2.cell? ⟨g, 1, none⟩ = some b ∧ w2.frozen? ⟨g, 0, none⟩ = false ∧ w2.frozen? ⟨g, 1, none⟩ = false ∧ g < w2.heap.size :=
 ⟨(hC.cell (p := ⟨g, 0, none⟩) hz).trans r0, (hC.cell (p := ⟨g, 1, none⟩) hz).trans r1, (hC.frozen (p := ⟨g, 0, none⟩) hz).trans f0, (hC.frozen (p := ⟨g, 1, none⟩) hz).trans f1, Nat.lt_of_lt_of_le hz hC.size⟩
set_option maxHeartbeats 800000 in
theorem eventR_c (s : ByteArray) (hs : s.size ≤ 4294967280) (w : World) :
  Calls Tryz.prog 98 #[.string s] w (EvPost (us s) w) := by
 have HB := κ (fun p hp => Nat.le_trans (parts_bd 59 (us s) p hp) (by rw [length_us]; exact hs))
 have HPC := κ (fun wx => partsR_c s (by omega) 59 wx)
 have hne := parts_ne 59 (us s)
 have HN := κ (show nameP (us s) = trim ((parts (us s) 59).headD []) from rfl)
 have HF := κ (show fieldsP (us s) = fieldsS (parts (us s) 59).tail from rfl)
 have HO := κ (show okP (us s) = (token (nameP (us s)) && ((fieldsP (us s)).2 == 0)) from rfl)
 have HYY := κ (evS_yes (us s))
 have HNN := κ (evS_no (us s))
 obtain ⟨L, hL⟩ : ∃ L, L = parts (us s) 59 := ⟨_, rfl⟩
 rw [← hL] at HB HPC HN HF hne
 clear hL
 obtain ⟨x, r, rfl⟩ : ∃ x r, L = x :: r := by cases L with | nil => exact absurd rfl hne | cons x r => exact ⟨x, r, rfl⟩
 clear hne
 have HTR := κ (fun wx => trimR_c (bs x) (by rw [size_bs]; have := HB.out x (List.mem_cons_self ..); omega) wx)
 rw [us_bs] at HTR
 have hxl := HB.out x (List.mem_cons_self ..)
 have htl := trim_le x
 have HTK := κ (fun wx => tokenR_c (bs (nameP (us s))) (by rw [size_bs, HN.out]; show (trim x).length ≤ _; omega) wx)
 rw [us_bs] at HTK
 rw [show (trim x) = nameP (us s) from HN.out.symm] at HTR
 have HFC := κ (fun wx v hv => fieldsR_c v r wx hv (fun p hp => HB.out p (List.mem_cons_of_mem _ hp)))
 rw [show fieldsS r = fieldsP (us s) from HF.out.symm] at HFC
 clear hxl htl
 obtain ⟨N, hN⟩ : ∃ N, N = nameP (us s) := ⟨_, rfl⟩
 obtain ⟨F, hF⟩ : ∃ F, F = fieldsP (us s) := ⟨_, rfl⟩
 rw [← hN] at HTR HTK HO HYY
 rw [← hF] at HFC HO HYY
 clear hN hF HN HF
 obtain ⟨Fl, Fe⟩ := F
 dsimp only at HO HFC HYY
 have hcase : (okP (us s) = false ∧ (token N = false ∨ (token N = true ∧ (Fe != 0) = true))) ∨ (okP (us s) = true ∧ token N = true ∧ (Fe != 0) = false) := by
  rw [HO.out]
  cases token N <;> cases hq : (Fe == 0) <;> simp [bne, hq]
 rcases hcase with ⟨hok, h2⟩ | ⟨hok, htk, hfe⟩
 ·have HE := κ (HNN.out hok)
  clear hok
  rcases h2 with htk | ⟨htk, hfe⟩
  all_goals
   rw [htk] at HTK; clear htk
   go_enter Tryz.func98, Tryz.ntmps98
   go_wp2_with (first | (go_at_call 101; refine (HPC.out _).mono ?_; rintro e w1 ⟨v, rfl, hv, hC⟩; obtain ⟨r0, r1, f0, f1, hz, hB⟩ := box2 hC; clear hC; have HV := κ hv; obtain ⟨ao, cap, rfl, hm1, c1⟩ := hv.form; obtain ⟨b, off, rfl, hb1, hc1⟩ := c1 (by simp); have x0 := hc1 0 (by simp); rw [Nat.add_zero] at x0; have k1 : (0 : Int) < ((x :: r).length : Int) := (by simp); clear hc1 c1; unfold maxLen at hm1) | (go_at_call 58; refine (HTR.out _).mono ?_; rintro e wx ⟨rfl, rfl⟩) | (go_at_call 104; refine (HFC.out _ _ (by first | exact HV.out.tailB | exact HV.out.tailA (by first | assumption | omega))).mono ?_; rintro e w2 ⟨u, rfl, hu, hF0, hC2⟩; obtain ⟨r0', r1', f0', f1', hz'⟩ := box2n r0 r1 f0 f1 hz hC2; have hB2 := hB.trans (hC2.mono (Nat.le_of_lt hz)); clear hu hF0 hC2) | (go_at_call 59; refine (HTK.out _).mono ?_; rintro e wx ⟨rfl, rfl⟩))
   all_goals
    refine bodyPost_ret (v := .tuple #[.agg #[.string ⟨#[]⟩, .slice none 0 0], .int .i64 81]) (by simp [results, Tryz.results98, go_sem, r0', r1']) rfl ?_
    exact ⟨_, by rw [HE.out]; rfl, .inl ⟨⟨_, _, rfl⟩, by rw [HE.out]⟩, Fresh.nil _ _ _, (hB2.setCell (ρ _) _).setCell (ρ _) _⟩
 ·have HE := κ (HYY.out hok)
  rw [htk] at HTK; clear htk hok
  go_enter Tryz.func98, Tryz.ntmps98
  go_wp2_with (first | (go_at_call 101; refine (HPC.out _).mono ?_; rintro e w1 ⟨v, rfl, hv, hC⟩; obtain ⟨r0, r1, f0, f1, hz, hB⟩ := box2 hC; clear hC; have HV := κ hv; obtain ⟨ao, cap, rfl, hm1, c1⟩ := hv.form; obtain ⟨b, off, rfl, hb1, hc1⟩ := c1 (by simp); have x0 := hc1 0 (by simp); rw [Nat.add_zero] at x0; have k1 : (0 : Int) < ((x :: r).length : Int) := (by simp); clear hc1 c1; unfold maxLen at hm1) | (go_at_call 58; refine (HTR.out _).mono ?_; rintro e wx ⟨rfl, rfl⟩) | (go_at_call 104; refine (HFC.out _ _ (by first | exact HV.out.tailB | exact HV.out.tailA (by first | assumption | omega))).mono ?_; rintro e w2 ⟨u, rfl, hu, hF0, hC2⟩; obtain ⟨r0', r1', f0', f1', hz'⟩ := box2n r0 r1 f0 f1 hz hC2; have hB2 := hB.trans (hC2.mono (Nat.le_of_lt hz)); have hF1 := hF0.mono (Nat.succ_le_of_lt hz); clear hC2; have HU := κ hu; obtain ⟨ao, cp, rfl, hml, hcl⟩ := hu.form; clear hu hcl hF0) | (go_at_call 59; refine (HTK.out _).mono ?_; rintro e wx ⟨rfl, rfl⟩))
  all_goals
   refine bodyPost_ret (v := .tuple #[.agg #[.string (bs N), .slice ao Fl.length cp], .int .i64 0]) (by simp [results, Tryz.results98, go_sem, r0', r1']) rfl ?_
   exact ⟨_, by rw [HE.out], by rw [HE.out]; exact (HU.out.set hF1 (Nat.lt_succ_self _) _).set hF1 (Nat.lt_succ_self _) _, hF1.mono (Nat.le_succ _), (hB2.setCell (ρ _) _).setCell (ρ _) _⟩
end
section
open Go.RowKit
set_option maxHeartbeats 1600000 in
theorem typeR_c (s : ByteArray) (hs : s.size ≤ 4294967280) (w : World) :
  Calls Tryz.prog 100 #[.string s] w fun e w' => e = .returned (.tuple #[.string (bs (typeOf (us s))), .bool (typeOk (us s))]) ∧ Below w.heap.size w w' := by
 have hty := typeOf_le (us s)
 have hcl := cutb_le 47 (typeOf (us s))
 rw [length_us] at hty
 have HB := κ (fun p hp => Nat.le_trans (parts_bd 59 (us s) p hp) (by rw [length_us]; exact hs))
 have HPC := κ (fun wx => partsR_c s (by omega) 59 wx)
 have hne := parts_ne 59 (us s)
 have HN := κ (show typeOf (us s) = lowr (trim ((parts (us s) 59).headD [])) from rfl)
 have HCT := κ (fun wx => (cutR_c (bs (typeOf (us s))) (by rw [size_bs]; omega) 47 wx))
 rw [us_bs] at HCT
 have HO := κ (show typeOk (us s) = ((cutb 47 (typeOf (us s))).2.2 && token (cutb 47 (typeOf (us s))).1 && token (cutb 47 (typeOf (us s))).2.1) from rfl)
 have HT1 := κ (fun wx => tokenR_c (bs (cutb 47 (typeOf (us s))).1) (by rw [size_bs]; omega) wx)
 have HT2 := κ (fun wx => tokenR_c (bs (cutb 47 (typeOf (us s))).2.1) (by rw [size_bs]; omega) wx)
 rw [us_bs] at HT1 HT2
 obtain ⟨L, hL⟩ : ∃ L, L = parts (us s) 59 := ⟨_, rfl⟩
 rw [← hL] at HB HPC HN hne
 clear hL
 obtain ⟨x, r, rfl⟩ : ∃ x r, L = x :: r := by cases L with | nil => exact absurd rfl hne | cons x r => exact ⟨x, r, rfl⟩
 clear hne
 have hxl := HB.out x (List.mem_cons_self ..)
 have htl := trim_le x
 have HTR := κ (fun wx => trimR_c (bs x) (by rw [size_bs]; omega) wx)
 rw [us_bs] at HTR
 have HLW := κ (fun wx => lowerR_c (bs (trim x)) (by rw [size_bs]; omega) wx)
 rw [us_bs, show lowr (trim x) = typeOf (us s) from HN.out.symm] at HLW
 obtain ⟨tx, htx⟩ : ∃ tx, tx = trim x := ⟨_, rfl⟩
 rw [← htx] at HTR HLW
 clear htx hxl htl HN HB
 obtain ⟨ty, hty'⟩ : ∃ ty, ty = typeOf (us s) := ⟨_, rfl⟩
 rw [← hty'] at HLW HCT HO HT1 HT2 ⊢
 clear hty'
 obtain ⟨c, hc⟩ : ∃ c, c = cutb 47 ty := ⟨_, rfl⟩
 rw [← hc] at HCT HO HT1 HT2
 clear hc hcl hty
 obtain ⟨ca, cb, ok⟩ := c
 dsimp only at HCT HO HT1 HT2
 cases ok <;> cases ha : token ca <;> cases hb : token cb
 all_goals
  rw [ha] at HT1 HO; rw [hb] at HT2 HO
  clear ha hb
  go_enter Tryz.func100, Tryz.ntmps100
  go_wp2_with (first | (go_at_call 101; refine (HPC.out _).mono ?_; rintro e w1 ⟨v, rfl, hv, hC⟩; have HV := κ hv; obtain ⟨ao, cap, rfl, hm1, c1⟩ := hv.form; obtain ⟨b, off, rfl, hb1, hc1⟩ := c1 (by simp); have x0 := hc1 0 (by simp); rw [Nat.add_zero] at x0; have k1 : (0 : Int) < ((x :: r).length : Int) := (by simp); clear hc1 c1; unfold maxLen at hm1) | (go_at_call 58; refine (HTR.out _).mono ?_; rintro e wx ⟨rfl, rfl⟩) | (go_at_call 89; refine (HLW.out _).mono ?_; rintro e w2 ⟨rfl, hC2⟩; have hB2 := hC.trans (hC2.mono hC.size)) | (go_at_call 55; refine (HCT.out _).mono ?_; rintro e w3 ⟨rfl, hD⟩; have hB3 := hB2.trans (hD.below (B := w.heap.size))) | (go_at_call 59; first | ((with_reducible refine (HT1.out _).mono ?_); rintro e wx ⟨rfl, rfl⟩) | ((with_reducible refine (HT2.out _).mono ?_); rintro e wx ⟨rfl, rfl⟩)))
  go_ret2
  exact ⟨by rw [HO.out]; rfl, hB3⟩
end
end Go.Proofs.YtgkilllbkljibaaGreatDoor
