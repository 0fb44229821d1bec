/- Contracts of Go functions, and plain laws. No condition but those told. -/
import Derived.Test.YtgkilllbkljibaaGreatDoorRZ02
import Derived.Lib.QuietBelow
set_option linter.unusedSimpArgs false
set_option linter.unusedVariables false
set_option maxRecDepth 100000
namespace Go.Proofs.YtgkilllbkljibaaGreatDoor
open Go.RowKit
set_option maxRecDepth 100000 in
set_option maxHeartbeats 6400000 in
theorem parseVR_c (s : ByteArray) (hs : s.size ≤ 4294967280) (w : World) :
  Calls Tryz.prog 106 #[.string s] w (HopPost (parseV (us s)) w) := by
 have HTR := κ (fun wx => trimR_c s (by omega) wx)
 have htl := trim_le (us s)
 rw [length_us] at htl
 have hpv : parseV (us s) = parse1 (trim (us s)) := rfl
 obtain ⟨T, hT⟩ : ∃ T, T = bs (trim (us s)) := ⟨_, rfl⟩
 have uT : trim (us s) = us T := by rw [hT, us_bs]
 have sT : T.size ≤ 4294967280 := by rw [hT, size_bs]; omega
 rw [← hT] at HTR
 rw [hpv, uT]
 clear hT uT hpv htl hs
 have hcs := parse1_cases T
 obtain ⟨R, hR⟩ : ∃ R, R = parse1 (us T) := ⟨_, rfl⟩
 rw [← hR] at hcs ⊢
 clear hR
 have hB0 : Below w.heap.size w (w.alloc (.cells #[.string ⟨#[]⟩, .int .i64 0, .slice none 0 0] 90)) := (Below.refl _ _).alloc (ρ _) _
 have bm0 := Blk.new w 90 #[.string ⟨#[]⟩, .int .i64 0, .slice none 0 0]
 have hw0s : (w.alloc (.cells #[.string ⟨#[]⟩, .int .i64 0, .slice none 0 0] 90)).heap.size = w.heap.size + 1 := World.size_alloc _ _
 obtain ⟨w0, hw0⟩ : ∃ w0, w0 = w.alloc (.cells #[.string ⟨#[]⟩, .int .i64 0, .slice none 0 0] 90) := ⟨_, rfl⟩
 rw [← hw0] at hB0 bm0 hw0s
 have HW0 := κ hw0
 have HX := κ (fun (wx : World) (h : Below w0.heap.size w0 wx) => (show Blk wx w.heap.size 90 #[.string ⟨#[]⟩, .int .i64 0, .slice none 0 0] ∧ Below w.heap.size w wx from ⟨bm0.call h, hB0.trans (h.mono hB0.size)⟩))
 have hZ : Below w0.heap.size w0 w0 := Below.refl _ _
 have HL0 := κ (fun (wx : World) (h : Below w0.heap.size w0 wx) => (show w.heap.size < wx.heap.size from by have := h.size; omega))
 obtain ⟨bm, hBB⟩ := HX.out _ hZ
 obtain ⟨r0, r1, r2, f0, f1, f2, hz⟩ := bm.f3
 clear hw0 bm0 hB0 hw0s
 rcases hcs with ⟨h0, rfl⟩ | ⟨i, hi, hiT, hcs⟩
 ·have HNEG := κ h0
  clear h0
  go_enter Tryz.func106, Tryz.ntmps106
  go_wp2_with (first | (go_at_call 58; (try rw [← HW0.out]); ((with_reducible refine (HTR.out _).mono ?_); rintro e wt ⟨rfl, rfl⟩)))
  go_loop [4] (fun i => ∃ k : Nat, k ≤ T.size ∧ i = .int .i64 k ∧ ((us T).take k).any blank = false) (fun i => T.size - (intOf i).toNat)
  case atStart => exact ⟨0, Nat.zero_le _, rfl, rfl⟩
  case round =>
   obtain ⟨k, hk, rfl, hp⟩ := hrel
   have HPP := κ hp; clear hp
   by_cases hlt : k < T.size
   ·cases hbk : blank T[k]
    ·have HN := κ (any_more T k hlt HPP.out hbk)
     have t1 : (cls T[k] == 32) = false := by unfold blank at hbk; exact hbk
     have t2 : (cls T[k] != 32) = true := by rw [bne, t1]; rfl
     clear hbk
     go_wp2_with (go_at_call 108; refine (classR_c _ _).mono ?_; rintro e w' ⟨rfl, rfl⟩)
     go_round
     case rel => exact ⟨k + 1, by omega, by go_num, HN.out⟩
     case measure => simp [intOf]; omega
    ·have hik := any_hitV T k hlt HPP.out hbk
     have t1 : (cls T[k] == 32) = true := by unfold blank at hbk; exact hbk
     have t2 : (cls T[k] != 32) = false := by rw [bne, t1]; rfl
     clear hbk
     have := HNEG.out
     omega
   ·have hik := fst_none (us T) (by rw [← take_all T k (by omega)]; exact HPP.out)
    have t5 : ((k : Int) == (T.size : Int)) = true := by (rw [beq_iff_eq]; omega)
    clear hik
    go_wp2
    refine bodyPost_ret (v := .tuple #[.agg #[.string ⟨#[]⟩, .int .i64 0, .slice none 0 0], .int .i64 70]) (by simp [results, Tryz.results106, go_sem, r0, r1, r2]) rfl ?_
    exact ⟨_, rfl, .inl ⟨⟨_, _, rfl⟩, rfl⟩, Fresh.nil _ _ _, ((hBB.setCell (ρ _) _).setCell (ρ _) _).setCell (ρ _) _⟩
 ·have HIF := κ hi
  clear hi
  have HSM := κ (fun wx => sameR_c (T.extract 0 i) ⟨#[83, 73, 80, 47, 50, 46, 48, 47, 85, 68, 80]⟩ (by rw [size_extract _ _ _ hiT]; omega) (by decide) wx)
  rw [show us ⟨#[83, 73, 80, 47, 50, 46, 48, 47, 85, 68, 80]⟩ = nProto from rfl] at HSM
  have HPC := κ (fun wx => partsR_c (T.extract i T.size) (by rw [← length_us, us_tail, List.length_drop, length_us]; omega) 59 wx)
  rcases hcs with ⟨h2, rfl⟩ | ⟨h2, x, r, hP, hR⟩
  ·rw [h2] at HSM
   clear h2 HPC
   go_enter Tryz.func106, Tryz.ntmps106
   go_wp2_with (first | (go_at_call 58; (try rw [← HW0.out]); ((with_reducible refine (HTR.out _).mono ?_); rintro e wt ⟨rfl, rfl⟩)))
   go_loop [4] (fun i => ∃ k : Nat, k ≤ T.size ∧ i = .int .i64 k ∧ ((us T).take k).any blank = false) (fun i => T.size - (intOf i).toNat)
   case atStart => exact ⟨0, Nat.zero_le _, rfl, rfl⟩
   case round =>
    obtain ⟨k, hk, rfl, hp⟩ := hrel
    have HPP := κ hp; clear hp
    by_cases hlt : k < T.size
    ·cases hbk : blank T[k]
     ·have HN := κ (any_more T k hlt HPP.out hbk)
      have t1 : (cls T[k] == 32) = false := by unfold blank at hbk; exact hbk
      have t2 : (cls T[k] != 32) = true := by rw [bne, t1]; rfl
      clear hbk
      go_wp2_with (go_at_call 108; refine (classR_c _ _).mono ?_; rintro e w' ⟨rfl, rfl⟩)
      go_round
      case rel => exact ⟨k + 1, by omega, by go_num, HN.out⟩
      case measure => simp [intOf]; omega
     ·have hik := any_hitV T k hlt HPP.out hbk
      have t1 : (cls T[k] == 32) = true := by unfold blank at hbk; exact hbk
      have t2 : (cls T[k] != 32) = false := by rw [bne, t1]; rfl
      clear hbk
      have hki : k = i := by have := HIF.out; omega
      subst hki
      have t5 : ((k : Int) == (T.size : Int)) = false := by (rw [beq_eq_false_iff_ne]; omega)
      have i1 : (k : Int) ≤ (T.size : Int) := by omega
      clear hik
      go_wp2_with (first | (go_at_call 108; refine (classR_c _ _).mono ?_; rintro e w' ⟨rfl, rfl⟩) | (go_at_call 116; refine (HSM.out _).mono ?_; rintro e w2 ⟨rfl, hC2⟩; have hZ := hZ.trans (hC2.mono hZ.size); obtain ⟨bm, hBB⟩ := HX.out _ hZ; obtain ⟨r0, r1, r2, f0, f1, f2, hz⟩ := bm.f3))
      refine bodyPost_ret (v := .tuple #[.agg #[.string ⟨#[]⟩, .int .i64 0, .slice none 0 0], .int .i64 70]) (by simp [results, Tryz.results106, go_sem, r0, r1, r2]) rfl ?_
      exact ⟨_, rfl, .inl ⟨⟨_, _, rfl⟩, rfl⟩, Fresh.nil _ _ _, ((hBB.setCell (ρ _) _).setCell (ρ _) _).setCell (ρ _) _⟩
    ·have hik := fst_none (us T) (by rw [← take_all T k (by omega)]; exact HPP.out)
     have := HIF.out
     omega
  ·rw [h2] at HSM
   have HBD := κ (fun p hp => Nat.le_trans (parts_bd 59 (us (T.extract i T.size)) p hp) (by rw [us_tail, List.length_drop, length_us]; omega : (us (T.extract i T.size)).length ≤ 4294967280))
   rw [hP] at HPC HBD
   clear h2 hP
   have hxl := HBD.out x (List.mem_cons_self ..)
   have htx := trim_le x
   have HTX := κ (fun wx => trimR_c (bs x) (by rw [size_bs]; omega) wx)
   rw [us_bs] at HTX
   have HWH := κ (fun wx => whereR_c (bs (trim x)) (by rw [size_bs]; omega) wx)
   rw [us_bs] at HWH
   have HFC := κ (fun wx v hv => fieldsR_c v r wx hv (fun p hp => HBD.out p (List.mem_cons_of_mem _ hp)))
   obtain ⟨W, hW⟩ : ∃ W, W = whereS (trim x) := ⟨_, rfl⟩
   obtain ⟨F, hF⟩ : ∃ F, F = fieldsS r := ⟨_, rfl⟩
   rw [← hW] at HWH hR
   rw [← hF] at HFC hR
   clear hW hF hxl htx HBD
   obtain ⟨⟨hl, p⟩, we⟩ := W
   obtain ⟨F, fe⟩ := F
   dsimp only at HWH HFC
   obtain ⟨H, hHd⟩ : ∃ H, H = bs hl := ⟨_, rfl⟩
   rw [← hHd] at HWH
   have HHd := κ hHd
   clear hHd
   by_cases w0' : we = 0
   ·subst w0'
    by_cases f0' : fe = 0
    ·subst f0'
     obtain rfl : R = (⟨hl, p, F⟩, 0) := by exact hR
     clear hR
     go_enter Tryz.func106, Tryz.ntmps106
     go_wp2_with (first | (go_at_call 58; (try rw [← HW0.out]); ((with_reducible refine (HTR.out _).mono ?_); rintro e wt ⟨rfl, rfl⟩)))
     go_loop [4] (fun i => ∃ k : Nat, k ≤ T.size ∧ i = .int .i64 k ∧ ((us T).take k).any blank = false) (fun i => T.size - (intOf i).toNat)
     case atStart => exact ⟨0, Nat.zero_le _, rfl, rfl⟩
     case round =>
      obtain ⟨k, hk, rfl, hp⟩ := hrel
      have HPP := κ hp; clear hp
      by_cases hlt : k < T.size
      ·cases hbk : blank T[k]
       ·have HN := κ (any_more T k hlt HPP.out hbk)
        have t1 : (cls T[k] == 32) = false := by unfold blank at hbk; exact hbk
        have t2 : (cls T[k] != 32) = true := by rw [bne, t1]; rfl
        clear hbk
        go_wp2_with (go_at_call 108; refine (classR_c _ _).mono ?_; rintro e w' ⟨rfl, rfl⟩)
        go_round
        case rel => exact ⟨k + 1, by omega, by go_num, HN.out⟩
        case measure => simp [intOf]; omega
       ·have hik := any_hitV T k hlt HPP.out hbk
        have t1 : (cls T[k] == 32) = true := by unfold blank at hbk; exact hbk
        have t2 : (cls T[k] != 32) = false := by rw [bne, t1]; rfl
        clear hbk
        have hki : k = i := by have := HIF.out; omega
        subst hki
        have t5 : ((k : Int) == (T.size : Int)) = false := by (rw [beq_eq_false_iff_ne]; omega)
        have i1 : (k : Int) ≤ (T.size : Int) := by omega
        clear hik
        go_wp2_with (first | (go_at_call 108; refine (classR_c _ _).mono ?_; rintro e w' ⟨rfl, rfl⟩) | (go_at_call 58; ((with_reducible refine (HTX.out _).mono ?_); rintro e wt ⟨rfl, rfl⟩)) | (go_at_call 116; refine (HSM.out _).mono ?_; rintro e w2 ⟨rfl, hC2⟩; have hZ := hZ.trans (hC2.mono hZ.size); obtain ⟨bm, hBB⟩ := HX.out _ hZ; obtain ⟨r0, r1, r2, f0, f1, f2, hz⟩ := bm.f3) | (go_at_call 101; refine (HPC.out _).mono ?_; rintro e w3 ⟨v, rfl, hv, hC3⟩; have hZ := hZ.trans (hC3.mono hZ.size); obtain ⟨bm, hBB⟩ := HX.out _ hZ; obtain ⟨r0, r1, r2, f0, f1, f2, hz⟩ := bm.f3; have HV := κ hv; obtain ⟨ao, cap, rfl, hm1, c1⟩ := hv.form; obtain ⟨b, off, rfl, hb1, hc1⟩ := c1 (by simp); have x0 := hc1 0 (by simp); rw [Nat.add_zero] at x0; have k1 : (0 : Int) < ((x :: r).length : Int) := (by simp); clear hc1 c1; unfold maxLen at hm1) | (go_at_call 94; refine (HWH.out _).mono ?_; rintro e w4 ⟨rfl, hC4⟩; have hZ := hZ.trans (hC4.mono hZ.size); obtain ⟨bm, hBB⟩ := HX.out _ hZ; obtain ⟨r0, r1, r2, f0, f1, f2, hz⟩ := bm.f3; have HV := κ (HV.out.below hC4 (ρ _))) | (go_at_call 104; refine (HFC.out _ _ (by first | exact HV.out.tailB | exact HV.out.tailA (by first | assumption | omega))).mono ?_; rintro e w5 ⟨u, rfl, hu, hF0, hC5⟩; have hlt := HL0.out _ hZ; have hZ := hZ.trans (hC5.mono hZ.size); obtain ⟨bm, hBB⟩ := HX.out _ hZ; obtain ⟨r0, r1, r2, f0, f1, f2, hz⟩ := bm.f3; have HU := κ hu; obtain ⟨ao', cp, rfl, hml, hcl⟩ := hu.form; clear hu hcl))
        all_goals
         refine bodyPost_ret (v := .tuple #[.agg #[.string H, .int .i64 p, .slice ao' F.length cp], .int .i64 0]) (by simp [results, Tryz.results106, go_sem, r0, r1, r2]) rfl ?_
         exact ⟨_, by (rw [HHd.out]; rfl), ((HU.out.set hF0 hlt _).set hF0 hlt _).set hF0 hlt _, hF0.mono (Nat.le_of_lt hlt), ((hBB.setCell (ρ _) _).setCell (ρ _) _).setCell (ρ _) _⟩
      ·have hik := fst_none (us T) (by rw [← take_all T k (by omega)]; exact HPP.out)
       have := HIF.out
       omega
    ·obtain rfl : R = (hop0, fe) := by
      rw [hR]; unfold endV; rw [if_neg (fun h => h rfl), if_pos f0']
     have t7 : (fe != 0) = true := by simpa using f0'
     clear hR f0'
     go_enter Tryz.func106, Tryz.ntmps106
     go_wp2_with (first | (go_at_call 58; (try rw [← HW0.out]); ((with_reducible refine (HTR.out _).mono ?_); rintro e wt ⟨rfl, rfl⟩)))
     go_loop [4] (fun i => ∃ k : Nat, k ≤ T.size ∧ i = .int .i64 k ∧ ((us T).take k).any blank = false) (fun i => T.size - (intOf i).toNat)
     case atStart => exact ⟨0, Nat.zero_le _, rfl, rfl⟩
     case round =>
      obtain ⟨k, hk, rfl, hp⟩ := hrel
      have HPP := κ hp; clear hp
      by_cases hlt : k < T.size
      ·cases hbk : blank T[k]
       ·have HN := κ (any_more T k hlt HPP.out hbk)
        have t1 : (cls T[k] == 32) = false := by unfold blank at hbk; exact hbk
        have t2 : (cls T[k] != 32) = true := by rw [bne, t1]; rfl
        clear hbk
        go_wp2_with (go_at_call 108; refine (classR_c _ _).mono ?_; rintro e w' ⟨rfl, rfl⟩)
        go_round
        case rel => exact ⟨k + 1, by omega, by go_num, HN.out⟩
        case measure => simp [intOf]; omega
       ·have hik := any_hitV T k hlt HPP.out hbk
        have t1 : (cls T[k] == 32) = true := by unfold blank at hbk; exact hbk
        have t2 : (cls T[k] != 32) = false := by rw [bne, t1]; rfl
        clear hbk
        have hki : k = i := by have := HIF.out; omega
        subst hki
        have t5 : ((k : Int) == (T.size : Int)) = false := by (rw [beq_eq_false_iff_ne]; omega)
        have i1 : (k : Int) ≤ (T.size : Int) := by omega
        clear hik
        go_wp2_with (first | (go_at_call 108; refine (classR_c _ _).mono ?_; rintro e w' ⟨rfl, rfl⟩) | (go_at_call 58; ((with_reducible refine (HTX.out _).mono ?_); rintro e wt ⟨rfl, rfl⟩)) | (go_at_call 116; refine (HSM.out _).mono ?_; rintro e w2 ⟨rfl, hC2⟩; have hZ := hZ.trans (hC2.mono hZ.size); obtain ⟨bm, hBB⟩ := HX.out _ hZ; obtain ⟨r0, r1, r2, f0, f1, f2, hz⟩ := bm.f3) | (go_at_call 101; refine (HPC.out _).mono ?_; rintro e w3 ⟨v, rfl, hv, hC3⟩; have hZ := hZ.trans (hC3.mono hZ.size); obtain ⟨bm, hBB⟩ := HX.out _ hZ; obtain ⟨r0, r1, r2, f0, f1, f2, hz⟩ := bm.f3; have HV := κ hv; obtain ⟨ao, cap, rfl, hm1, c1⟩ := hv.form; obtain ⟨b, off, rfl, hb1, hc1⟩ := c1 (by simp); have x0 := hc1 0 (by simp); rw [Nat.add_zero] at x0; have k1 : (0 : Int) < ((x :: r).length : Int) := (by simp); clear hc1 c1; unfold maxLen at hm1) | (go_at_call 94; refine (HWH.out _).mono ?_; rintro e w4 ⟨rfl, hC4⟩; have hZ := hZ.trans (hC4.mono hZ.size); obtain ⟨bm, hBB⟩ := HX.out _ hZ; obtain ⟨r0, r1, r2, f0, f1, f2, hz⟩ := bm.f3; have HV := κ (HV.out.below hC4 (ρ _))) | (go_at_call 104; refine (HFC.out _ _ (by first | exact HV.out.tailB | exact HV.out.tailA (by first | assumption | omega))).mono ?_; rintro e w5 ⟨u, rfl, hu, hF0, hC5⟩; have hlt := HL0.out _ hZ; have hZ := hZ.trans (hC5.mono hZ.size); obtain ⟨bm, hBB⟩ := HX.out _ hZ; obtain ⟨r0, r1, r2, f0, f1, f2, hz⟩ := bm.f3; have HU := κ hu; obtain ⟨ao', cp, rfl, hml, hcl⟩ := hu.form; clear hu hcl))
        all_goals
         refine bodyPost_ret (v := .tuple #[.agg #[.string ⟨#[]⟩, .int .i64 0, .slice none 0 0], .int .i64 fe]) (by simp [results, Tryz.results106, go_sem, r0, r1, r2]) rfl ?_
         exact ⟨_, rfl, .inl ⟨⟨_, _, rfl⟩, rfl⟩, Fresh.nil _ _ _, ((hBB.setCell (ρ _) _).setCell (ρ _) _).setCell (ρ _) _⟩
      ·have hik := fst_none (us T) (by rw [← take_all T k (by omega)]; exact HPP.out)
       have := HIF.out
       omega
   ·obtain rfl : R = (hop0, we) := by
     rw [hR]; unfold endV; rw [if_pos w0']
    have t7 : (we != 0) = true := by simpa using w0'
    clear hR w0'
    go_enter Tryz.func106, Tryz.ntmps106
    go_wp2_with (first | (go_at_call 58; (try rw [← HW0.out]); ((with_reducible refine (HTR.out _).mono ?_); rintro e wt ⟨rfl, rfl⟩)))
    go_loop [4] (fun i => ∃ k : Nat, k ≤ T.size ∧ i = .int .i64 k ∧ ((us T).take k).any blank = false) (fun i => T.size - (intOf i).toNat)
    case atStart => exact ⟨0, Nat.zero_le _, rfl, rfl⟩
    case round =>
     obtain ⟨k, hk, rfl, hp⟩ := hrel
     have HPP := κ hp; clear hp
     by_cases hlt : k < T.size
     ·cases hbk : blank T[k]
      ·have HN := κ (any_more T k hlt HPP.out hbk)
       have t1 : (cls T[k] == 32) = false := by unfold blank at hbk; exact hbk
       have t2 : (cls T[k] != 32) = true := by rw [bne, t1]; rfl
       clear hbk
       go_wp2_with (go_at_call 108; refine (classR_c _ _).mono ?_; rintro e w' ⟨rfl, rfl⟩)
       go_round
       case rel => exact ⟨k + 1, by omega, by go_num, HN.out⟩
       case measure => simp [intOf]; omega
      ·have hik := any_hitV T k hlt HPP.out hbk
       have t1 : (cls T[k] == 32) = true := by unfold blank at hbk; exact hbk
       have t2 : (cls T[k] != 32) = false := by rw [bne, t1]; rfl
       clear hbk
       have hki : k = i := by have := HIF.out; omega
       subst hki
       have t5 : ((k : Int) == (T.size : Int)) = false := by (rw [beq_eq_false_iff_ne]; omega)
       have i1 : (k : Int) ≤ (T.size : Int) := by omega
       clear hik
       go_wp2_with (first | (go_at_call 108; refine (classR_c _ _).mono ?_; rintro e w' ⟨rfl, rfl⟩) | (go_at_call 58; ((with_reducible refine (HTX.out _).mono ?_); rintro e wt ⟨rfl, rfl⟩)) | (go_at_call 116; refine (HSM.out _).mono ?_; rintro e w2 ⟨rfl, hC2⟩; have hZ := hZ.trans (hC2.mono hZ.size); obtain ⟨bm, hBB⟩ := HX.out _ hZ; obtain ⟨r0, r1, r2, f0, f1, f2, hz⟩ := bm.f3) | (go_at_call 101; refine (HPC.out _).mono ?_; rintro e w3 ⟨v, rfl, hv, hC3⟩; have hZ := hZ.trans (hC3.mono hZ.size); obtain ⟨bm, hBB⟩ := HX.out _ hZ; obtain ⟨r0, r1, r2, f0, f1, f2, hz⟩ := bm.f3; have HV := κ hv; obtain ⟨ao, cap, rfl, hm1, c1⟩ := hv.form; obtain ⟨b, off, rfl, hb1, hc1⟩ := c1 (by simp); have x0 := hc1 0 (by simp); rw [Nat.add_zero] at x0; have k1 : (0 : Int) < ((x :: r).length : Int) := (by simp); clear hc1 c1; unfold maxLen at hm1) | (go_at_call 94; refine (HWH.out _).mono ?_; rintro e w4 ⟨rfl, hC4⟩; have hZ := hZ.trans (hC4.mono hZ.size); obtain ⟨bm, hBB⟩ := HX.out _ hZ; obtain ⟨r0, r1, r2, f0, f1, f2, hz⟩ := bm.f3; have HV := κ (HV.out.below hC4 (ρ _))))
       refine bodyPost_ret (v := .tuple #[.agg #[.string ⟨#[]⟩, .int .i64 0, .slice none 0 0], .int .i64 we]) (by simp [results, Tryz.results106, go_sem, r0, r1, r2]) rfl ?_
       exact ⟨_, rfl, .inl ⟨⟨_, _, rfl⟩, rfl⟩, Fresh.nil _ _ _, ((hBB.setCell (ρ _) _).setCell (ρ _) _).setCell (ρ _) _⟩
     ·have hik := fst_none (us T) (by rw [← take_all T k (by omega)]; exact HPP.out)
      have := HIF.out
      omega
end Go.Proofs.YtgkilllbkljibaaGreatDoor
namespace Go.Proofs.YtgkilllbkljibaaGreatDoor
open Go.RowKit Go.Sort
set_option maxRecDepth 100000 in
set_option maxHeartbeats 12800000 in
theorem listR_c (M TG RS B : ByteArray) (X : Int) (u : Value) (H : List Hdr) (w : World) (hu : RHdrs w u H) (hb : ∀ h ∈ H, h.name.length ≤ 1048576 ∧ h.value.length ≤ 1048576) (hH : H.length ≤ 1048576) :
  Calls Tryz.prog 43 #[.agg #[.string M, .string TG, .int .i64 X, .string RS, u, .string B]] w fun e w' => ∃ v, e = .returned (.tuple #[v, .int .i64 (listV (allS H nVia)).2]) ∧ RHops w' v (listV (allS H nVia)).1 ∧ Below w.heap.size w w' := by
 have HU := κ hu
 obtain ⟨mo, mc, rfl, _, _⟩ := hu.form
 clear hu
 have HAL := κ (fun wx hx => allR_c' M TG RS B X (.slice mo H.length mc) H ⟨#[86, 105, 97]⟩ (by decide) wx hx (fun h hh => by have := hb h hh; omega) (by omega))
 rw [show us ⟨#[86, 105, 97]⟩ = nVia from rfl] at HAL
 have hVb : ∀ x ∈ allS H nVia, x.length ≤ 1048576 := fun x hx => by
  obtain ⟨q, hq, rfl⟩ := allS_mem H nVia x hx
  exact (hb q hq).2
 have hVl := allS_len H nVia
 obtain ⟨VS, hVS⟩ : ∃ VS, VS = allS H nVia := ⟨_, rfl⟩
 rw [← hVS] at HAL hVb hVl ⊢
 have hVl2 : VS.length ≤ 1048576 := by omega
 have HVB := κ hVb
 clear hVS hVb hVl hb
 have HPB := κ (listV_bad VS)
 have HPN := κ (listV_nil VS)
 have HPO := κ (listV_ok VS)
 obtain ⟨A, hA⟩ : ∃ A, A = VS.flatMap pp := ⟨_, rfl⟩
 rw [← hA] at HPB HPN HPO
 have HAd := κ hA
 obtain ⟨Q, hQ⟩ : ∃ Q, Q = listV VS := ⟨_, rfl⟩
 rw [← hQ] at HPB HPN HPO ⊢
 clear hA hQ
 have hB0 : Below w.heap.size w (w.alloc (.cells #[.string M, .string TG, .int .i64 X, .string RS, .slice mo H.length mc, .string B] 24)) := (Below.refl _ _).alloc (ρ _) _
 obtain ⟨p0, p1, p2, p3, p4, p5⟩ := (Blk.new w 24 #[.string M, .string TG, .int .i64 X, .string RS, .slice mo H.length mc, .string B]).f6
 obtain ⟨w0, hw0⟩ : ∃ w0, w0 = w.alloc (.cells #[.string M, .string TG, .int .i64 X, .string RS, .slice mo H.length mc, .string B] 24) := ⟨_, rfl⟩
 rw [← hw0] at hB0 p0 p1 p2 p3 p4 p5
 have HW0 := κ hw0
 have HB0 := κ hB0
 clear hw0 hB0
 go_enter Tryz.func43, Tryz.ntmps43
 go_wp2_with (go_at_call 63; (try rw [← HW0.out]); refine (HAL.out _ (HU.out.below HB0.out (ρ _))).mono ?_; rintro e w1 ⟨va, rfl, hva, hC1⟩; have HB1 := κ (HB0.out.trans (hC1.mono HB0.out.size)); have HVA := κ hva; obtain ⟨ao, cap, rfl, hm1, c1⟩ := hva.form; have C1 := κ c1; clear hva c1 hC1)
 unfold maxLen at hm1
 go_loopw [4, 6] (fun v i wr => ∃ (j : Nat) (R : List (Hop × Value)), j ≤ VS.length ∧ i = .int .i64 j ∧ Hops wr w1.heap.size v R ∧ Hid (Below w1.heap.size w1 wr) ∧ R.length ≤ 16 ∧ Hid (hopsGo [] A = hopsGo (R.map Prod.fst) ((VS.drop j).flatMap pp))) (fun _ i _ => VS.length - (intOf i).toNat)
 case atStart => exact ⟨0, [], Nat.zero_le _, rfl, Hops.nil _ _, κ (Below.refl _ _), Nat.zero_le _, κ (by rw [HAd.out]; rfl)⟩
 case round =>
  obtain ⟨j, R, hj, rfl, hown, HB, hR, HP⟩ := hrel
  by_cases hlt : j < VS.length
  ·obtain ⟨b, off, rfl, hb1, hc1⟩ := C1.out (by omega)
   have x0 : wr.cell? ⟨b, off + j, none⟩ = some (.string (bs VS[j])) := (HB.out.cell (p := ⟨b, off + j, none⟩) hb1).trans (hc1 j hlt)
   have hvj := HVB.out VS[j] (List.getElem_mem hlt)
   have HPC := κ (fun wx => partsRF_c (bs VS[j]) (by rw [size_bs]; omega) 44 wx)
   rw [us_bs] at HPC
   have hPb : ∀ y ∈ parts VS[j] 44, y.length ≤ 1048576 := fun y hy => Nat.le_trans (parts_bd 44 VS[j] y hy) hvj
   have hPn := parts_ne 44 VS[j]
   have hPl : (parts VS[j] 44).length ≤ 1048577 := by
    have h1 := parts_cnt 44 VS[j]
    omega
   have HP2 := κ (show hopsGo [] A = hopsGo (R.map Prod.fst) (parts VS[j] 44 ++ (VS.drop (j + 1)).flatMap pp) by rw [HP.out, List.drop_eq_getElem_cons hlt, List.flatMap_cons]; rfl)
   obtain ⟨P, hPd⟩ : ∃ P, P = parts VS[j] 44 := ⟨_, rfl⟩
   rw [← hPd] at HPC hPb hPn hPl HP2
   have HPBD := κ hPb
   have hP0 : 0 < P.length := by rcases Nat.eq_zero_or_pos P.length with h | h; exact absurd (List.eq_nil_of_length_eq_zero h) hPn; exact h
   obtain ⟨S, hS⟩ : ∃ S, S = bs VS[j] := ⟨_, rfl⟩
   rw [← hS] at x0 HPC
   have k0 : (0 : Int) ≤ (j : Int) := by omega
   clear hPd hPb hPn hS hvj hc1 hb1 HP
   go_wp2_with (go_at_call 101; refine (HPC.out _).mono ?_; rintro e w2 ⟨vp, rfl, hvp, hC2⟩; have hown := hown.below hC2 (ρ _); have HB2 := κ (HB.out.trans (hC2.mono HB.out.size)); obtain ⟨ao2, cap2, rfl, hm2, c2⟩ := hvp.read.form; obtain ⟨b2, off2, rfl, hb2, _⟩ := c2 hP0; clear c2)
   unfold maxLen at hm2
   obtain ⟨base2, hbase2⟩ : ∃ x, x = wr.heap.size := ⟨_, rfl⟩
   rw [← hbase2] at hvp
   have HV0 := κ hvp
   have HOW := κ hown
   clear hbase2 hvp hown x0 hb2
   go_loopw [4, 8] (fun v i wr => ∃ (k : Nat) (R : List (Hop × Value)), k ≤ P.length ∧ i = .int .i64 k ∧ Hops wr w1.heap.size v R ∧ Hid (Below w1.heap.size w1 wr) ∧ R.length ≤ 16 ∧ Strs wr base2 9 (.slice (some ⟨b2, off2, none⟩) P.length cap2) P ∧ Hid (hopsGo [] A = hopsGo (R.map Prod.fst) (P.drop k ++ (VS.drop (j + 1)).flatMap pp))) (fun _ i _ => P.length - (intOf i).toNat)
   case atStart => exact ⟨0, R, Nat.zero_le _, rfl, HOW.out, HB2, hR, HV0.out, HP2⟩
   case round =>
    obtain ⟨k, R, hk, rfl, hown, HB, hR, hvp, HP⟩ := hrel
    by_cases hlt2 : k < P.length
    ·have x1 := hvp.at_ hlt2
     have hpk := HPBD.out P[k] (List.getElem_mem hlt2)
     have HPA := κ (fun wx => parseVR_c (bs P[k]) (by rw [size_bs]; omega) wx)
     rw [us_bs] at HPA
     unfold HopPost at HPA
     have hst : hopsGo [] A = if (parseV P[k]).2 ≠ 0 then ([], (parseV P[k]).2) else if 16 ≤ R.length then ([], 4) else hopsGo ((R ++ [((parseV P[k]).1, Value.bool true)]).map Prod.fst) (P.drop (k + 1) ++ (VS.drop (j + 1)).flatMap pp) := by
      rw [HP.out, List.drop_eq_getElem_cons hlt2, List.cons_append, hopsGo, List.length_map, List.map_append]; rfl
     have hln := hops_len hown
     obtain ⟨y, hy⟩ : ∃ y, y = parseV P[k] := ⟨_, rfl⟩
     rw [← hy] at HPA hst
     obtain ⟨S2, hS2⟩ : ∃ S2, S2 = bs P[k] := ⟨_, rfl⟩
     rw [← hS2] at x1 HPA
     clear hy hS2 hpk HP
     obtain ⟨q, c⟩ := y
     dsimp only at HPA hst
     unfold sv at HPA
     obtain ⟨N, hN⟩ : ∃ N, N = bs q.host := ⟨_, rfl⟩
     have HN := κ (show us N = q.host by rw [hN, us_bs])
     rw [← hN] at HPA
     have k1 : (0 : Int) ≤ (k : Int) := by omega
     obtain ⟨n, hn⟩ : ∃ n, n = q.port := ⟨_, rfl⟩
     rw [← hn] at HPA
     have HNp := κ hn
     obtain ⟨F, hF⟩ : ∃ F, F = q.ps := ⟨_, rfl⟩
     rw [← hF] at HPA
     have HFp := κ hF
     clear hN hn hF
     by_cases hc : c = 0
     ·subst hc
      rw [if_neg (fun h => h rfl)] at hst
      by_cases h16 : 16 ≤ R.length
      ·rw [if_pos h16] at hst
       have e16 : R.length = 16 := by omega
       have t16 : ((R.length : Int) == 16) = true := by rw [e16]; rfl
       have t17 : (16 : Int) ≤ (R.length : Int) := by omega
       have HE := κ (HPB.out 4 hst (by decide))
       clear hst h16 e16
       go_wp2_with ((go_at_call 106; refine (HPA.out _).mono ?_; rintro e w3 ⟨u3, rfl, hu3, hF3, hC3⟩; obtain ⟨ao3, cap3, rfl, _, _⟩ := hu3.form; have hfree : q.ps ≠ [] → ∀ a n c, (.slice ao3 F.length cap3 : Value) = .slice (some a) n c → _ := hown.free (q := q) hF3 (ρ _); have hC := hC3.alloc hC3.size (.cells #[.string N, .int .i64 n, .slice ao3 F.length cap3] 90); have hB := HB.out.trans (hC.mono HB.out.size); have hown := hown.below hC (ρ _); have hvp := hvp.below hC (ρ _); have hu3 := hu3.below ((Below.refl _ _).alloc (ρ _) (.cells #[.string N, .int .i64 n, .slice ao3 F.length cap3] 90)) (ρ _); obtain ⟨n0, n1, n2, _, _, _, _⟩ := (Blk.new w3 90 #[.string N, .int .i64 n, .slice ao3 F.length cap3]).f3))
       go_ret2
       exact ⟨_, by rw [HE.out]; rfl, by rw [HE.out]; exact RHops.nil _, HB1.out.trans (hB.mono HB1.out.size)⟩
      ·rw [if_neg h16] at hst
       have t16 : ((R.length : Int) == 16) = false := by rw [beq_eq_false_iff_ne]; omega
       have t17 : ¬ ((16 : Int) ≤ (R.length : Int)) := by omega
       have HST := κ hst
       clear hst
       go_wp2_with (first | (go_at_call 106; refine (HPA.out _).mono ?_; rintro e w3 ⟨u3, rfl, hu3, hF3, hC3⟩; obtain ⟨ao3, cap3, rfl, _, _⟩ := hu3.form; have hfree : q.ps ≠ [] → ∀ a n c, (.slice ao3 F.length cap3 : Value) = .slice (some a) n c → _ := hown.free (q := q) hF3 (ρ _); have hC := hC3.alloc hC3.size (.cells #[.string N, .int .i64 n, .slice ao3 F.length cap3] 90); have hB := HB.out.trans (hC.mono HB.out.size); have hown := hown.below hC (ρ _); have hvp := hvp.below hC (ρ _); have hu3 := hu3.below ((Below.refl _ _).alloc (ρ _) (.cells #[.string N, .int .i64 n, .slice ao3 F.length cap3] 90)) (ρ _); obtain ⟨n0, n1, n2, _, _, _, _⟩ := (Blk.new w3 90 #[.string N, .int .i64 n, .slice ao3 F.length cap3]).f3) | (at_builtin; refine wpList_appVK q HN.out HNp.out rfl rfl Tryz.underlying85 infoV (by rw [World.size_alloc]; rfl) rfl hown (hu3.to HFp.out) hfree hB (ρ _) ?_ ?_; (focus omega); intro v1 w4 ho1 hb1 hk1))
       go_roundw
       case rel => exact ⟨k + 1, _, by omega, by go_num, ho1, κ hb1, by rw [List.length_append]; simp; omega, hvp.kept hk1 (by decide), κ (by rw [HST.out]; simp only [List.map_append, List.map_cons])⟩
       case measure => simp [intOf]; omega
     ·rw [if_pos hc] at hst
      have t0 : (c != 0) = true := by simpa using hc
      have HE := κ (HPB.out c hst hc)
      clear hst hc
      go_wp2_with ((go_at_call 106; refine (HPA.out _).mono ?_; rintro e w3 ⟨u3, rfl, hu3, hF3, hC3⟩; obtain ⟨ao3, cap3, rfl, _, _⟩ := hu3.form; have hfree : q.ps ≠ [] → ∀ a n c, (.slice ao3 F.length cap3 : Value) = .slice (some a) n c → _ := hown.free (q := q) hF3 (ρ _); have hC := hC3.alloc hC3.size (.cells #[.string N, .int .i64 n, .slice ao3 F.length cap3] 90); have hB := HB.out.trans (hC.mono HB.out.size); have hown := hown.below hC (ρ _); have hvp := hvp.below hC (ρ _); have hu3 := hu3.below ((Below.refl _ _).alloc (ρ _) (.cells #[.string N, .int .i64 n, .slice ao3 F.length cap3] 90)) (ρ _); obtain ⟨n0, n1, n2, _, _, _, _⟩ := (Blk.new w3 90 #[.string N, .int .i64 n, .slice ao3 F.length cap3]).f3))
      go_ret2
      exact ⟨_, by rw [HE.out]; rfl, by rw [HE.out]; exact RHops.nil _, HB1.out.trans (hB.mono HB1.out.size)⟩
    ·have HST := κ (show hopsGo [] A = hopsGo (R.map Prod.fst) ((VS.drop (j + 1)).flatMap pp) by rw [HP.out, List.drop_eq_nil_iff.2 (by omega)]; rfl)
     clear HP
     go_wp2
     go_roundw
     case rel => exact ⟨j + 1, R, by omega, by go_num, hown, HB, hR, HST⟩
     case measure => simp [intOf]; omega
  ·have hst : hopsGo [] A = (R.map Prod.fst, 0) := by rw [HP.out, List.drop_eq_nil_iff.2 (by omega)]; rfl
   have hln := hops_len hown
   have HBF := κ (HB1.out.trans (HB.out.mono HB1.out.size))
   by_cases hz : R.length = 0
   ·have t1 : ((R.length : Int) == 0) = true := by rw [hz]; rfl
    have HE := κ (HPN.out (by rw [hst, List.eq_nil_of_length_eq_zero hz]; rfl))
    clear hst hz HP
    go_wp2
    go_ret2
    exact ⟨_, by rw [HE.out]; rfl, by rw [HE.out]; exact RHops.nil _, HBF.out⟩
   ·have t1 : ((R.length : Int) == 0) = false := by rw [beq_eq_false_iff_ne]; omega
    have HE := κ (HPO.out _ hst (by intro e; have := congrArg List.length e; rw [List.length_map, List.length_nil] at this; omega))
    clear hst hz HP
    go_wp2
    go_ret2
    exact ⟨_, by rw [HE.out]; rfl, by rw [HE.out]; exact hown.read, HBF.out⟩
section
open Go.RowKit
theorem callR_c (s : ByteArray) (hs : s.size ≤ 9223372036854775807) (w : World) :
  Calls Tryz.prog 46 #[.string s] w fun e w' => e = .returned (.bool (callS (us s))) ∧ w = w' := by
 go_enter Tryz.func46, Tryz.ntmps46
 go_wp2
 go_loop [3] (fun i => ∃ k : Nat, k ≤ s.size ∧ i = .int .i64 k ∧ ((us s).take k).all seen = true) (fun i => s.size - (intOf i).toNat)
 case atStart => exact ⟨0, Nat.zero_le _, rfl, rfl⟩
 case round =>
  obtain ⟨k, hk, rfl, hb⟩ := hrel
  have HB := κ hb; clear hb
  by_cases hlt : k < s.size
  ·have hf := κ (fun h => callS_no (us s) (.inr (.inr (all_found s k hlt h))))
   have ht := κ (fun h => all_take s k hlt h HB.out)
   by_cases c1 : ((s[k].toNat : Int) < 33)
   ·have HN := κ (hf.out (seen_no _ (.inl (by omega))))
    go_wp2
    all_goals
     go_ret
     exact ⟨ret_bool (by rw [HN.out]), rfl⟩
   ·by_cases c2 : (126 < (s[k].toNat : Int))
    ·have HN := κ (hf.out (seen_no _ (.inr (by omega))))
     go_wp2
     all_goals
      go_ret
      exact ⟨ret_bool (by rw [HN.out]), rfl⟩
    ·have HN := κ (ht.out (seen_yes _ (by omega) (by omega)))
     go_wp2
     go_round
     case rel => exact ⟨k + 1, by omega, by go_num, HN.out⟩
     case measure => simp [intOf]; omega
  ·have HA := κ (show (us s).all seen = true by rw [← take_all s k (by omega)]; exact HB.out)
   by_cases h1 : 1 ≤ s.size <;> by_cases h2 : s.size ≤ 128
   ·have HY := κ (callS_yes (us s) (by rw [length_us]; omega) (by rw [length_us]; omega) HA.out)
    go_wp2
    all_goals
     go_ret
     exact ⟨ret_bool (by rw [HY.out]; try (first | (simp; omega) | simp)), rfl⟩
   all_goals
    have HN := κ (callS_no (us s) (by rw [length_us]; omega))
    go_wp2
    all_goals
     go_ret
     exact ⟨ret_bool (by rw [HN.out]; try (first | (simp; omega) | simp)), rfl⟩
end
section
open Go.RowKit
def seqR (l : List UInt8) : Int × List UInt8 × Int :=
 if (number ((trim l).takeWhile nb) 2147483647).2 ≠ 0 ∨ token (trim ((trim l).dropWhile nb)) = false then (0, [], 80)
 else ((number ((trim l).takeWhile nb) 2147483647).1, trim ((trim l).dropWhile nb), 0)
def swb (x : UInt8) : UInt8 := if x.toNat = 9 then 32 else x
theorem swapb_map (l : List UInt8) : swapb 9 32 l = l.map swb := rfl
theorem swb_facts (c : UInt8) : blank (swb c) = blank c ∧ testc 8 (swb c) = testc 8 c ∧ (blank c = true ↔ (swb c).toNat = 32) ∧ (blank c = false → swb c = c) ∧ (testc 8 c = true → swb c = c ∧ blank c = false) :=
 all_bytes (fun c => blank (swb c) = blank c ∧ testc 8 (swb c) = testc 8 c ∧ (blank c = true ↔ (swb c).toNat = 32) ∧ (blank c = false → swb c = c) ∧ (testc 8 c = true → swb c = c ∧ blank c = false)) (by decide +kernel) c
theorem drop_map (l : List UInt8) : (l.map swb).dropWhile blank = (l.dropWhile blank).map swb := by
 induction l with
 | nil => rfl
 | cons c r ih =>
  rw [List.map_cons]
  cases h : blank c
  ·rw [List.dropWhile_cons_of_neg (by rw [(swb_facts c).1, h]; decide), List.dropWhile_cons_of_neg (by rw [h]; decide)]; rfl
  ·rw [List.dropWhile_cons_of_pos (by rw [(swb_facts c).1, h]), List.dropWhile_cons_of_pos h, ih]
theorem trim_map (l : List UInt8) : trim (l.map swb) = (trim l).map swb := by
 unfold trim trimR trimL
 rw [drop_map, ← List.map_reverse, drop_map, ← List.map_reverse]
theorem token_map (l : List UInt8) : token (l.map swb) = token l := by
 unfold token allc
 rw [List.length_map, List.all_map]
 congr 2
 exact funext fun c => (swb_facts c).2.1
theorem token_same (l : List UInt8) (h : token l = true) : l.map swb = l := by
 unfold token allc at h
 simp only [Bool.and_eq_true, List.all_eq_true] at h
 have : l.map swb = l.map id := List.map_congr_left fun c hc => ((swb_facts c).2.2.2.2 (h.2 c hc)).1
 rw [this, List.map_id]
theorem cut_blank : ∀ l : List UInt8, cutb 32 (l.map swb) = (l.takeWhile nb, ((l.dropWhile nb).drop 1).map swb, !(l.dropWhile nb).isEmpty)
 | [] => rfl
 | c :: r => by
  rw [List.map_cons, cutb]
  cases h : blank c
  ·have hn : ¬ (swb c).toNat = (32 : UInt8).toNat := fun e => by
    have := (swb_facts c).2.2.1.2 e; rw [h] at this; cases this
   rw [if_neg hn, cut_blank r, List.takeWhile_cons_of_pos (by unfold nb; rw [h]; rfl), List.dropWhile_cons_of_pos (by unfold nb; rw [h]; rfl), (swb_facts c).2.2.2.1 h]
  ·rw [if_pos (show (swb c).toNat = (32 : UInt8).toNat from (swb_facts c).2.2.1.1 h), List.takeWhile_cons_of_neg (by unfold nb; rw [h]; decide), List.dropWhile_cons_of_neg (by unfold nb; rw [h]; decide)]; rfl
theorem trim_drop1 (l : List UInt8) (h : ∀ c, l.head? = some c → blank c = true) : trim (l.drop 1) = trim l := by
 cases l with
 | nil => rfl
 | cons c r =>
  have hc := h c rfl
  unfold trim trimL
  rw [List.dropWhile_cons_of_pos hc]; rfl
theorem dw_head (l : List UInt8) : ∀ c, (l.dropWhile nb).head? = some c → blank c = true := by
 induction l with
 | nil => intro c h; cases h
 | cons x r ih =>
  intro c h
  cases hx : blank x
  ·rw [List.dropWhile_cons_of_pos (by unfold nb; rw [hx]; rfl)] at h; exact ih c h
  ·rw [List.dropWhile_cons_of_neg (by unfold nb; rw [hx]; decide)] at h
   injection h with h; rw [← h]; exact hx
theorem seq_same (l : List UInt8) : seqP l = seqR l := by
 unfold seqP seqR
 rw [swapb_map, cut_blank]
 dsimp only
 rw [trim_map, trim_drop1 _ (dw_head _), token_map]
 obtain ⟨d, hd⟩ : ∃ d, d = (trim l).dropWhile nb := ⟨_, rfl⟩
 rw [← hd]
 by_cases he : d = []
 ·subst he
  have ht : token (trim []) = false := by decide
  rw [if_pos (.inl (by rfl)), if_pos (.inr ht)]
 ·have h1 : (!d.isEmpty) = true := by cases d with | nil => exact absurd rfl he | cons => rfl
  rw [h1]
  by_cases hc : (number ((trim l).takeWhile nb) 2147483647).2 ≠ 0 ∨ token (trim d) = false
  ·rw [if_pos (.inr hc), if_pos hc]
  ·rw [if_neg (fun h => by rcases h with h | h; cases h; exact hc h), if_neg hc]
   have ht : token (trim d) = true := by
    cases h : token (trim d)
    ·exact absurd (.inr h) hc
    ·rfl
   rw [token_same _ ht]
theorem tw_at (s : ByteArray) (k : Nat) (hp : ((us s).take k).all nb = true) (he : ∀ h : k < s.size, blank s[k] = true) :
  (us s).takeWhile nb = us (s.extract 0 k) ∧ (us s).dropWhile nb = us (s.extract k s.size) := by
 have hsplit : us s = (us s).take k ++ (us s).drop k := (List.take_append_drop k _).symm
 have hd : ∀ x, (((us s).drop k).head? = some x) → nb x = false := by
  intro x hx
  rcases Nat.lt_or_ge k s.size with h | h
  ·rw [drop_us s k h] at hx
   injection hx with hx
   unfold nb; rw [← hx, he h]; rfl
  ·rw [drop_us_end s k h] at hx; cases hx
 have hall : ∀ c ∈ (us s).take k, nb c = true := List.all_eq_true.1 hp
 have e1 : us (s.extract 0 k) = (us s).take k := by rw [us_extract]; simp
 have e2 : us (s.extract k s.size) = (us s).drop k := us_tail s k
 rw [e1, e2]
 constructor
 ·rw [hsplit, List.takeWhile_append_of_pos hall]
  have : ((us s).drop k).takeWhile nb = [] := by
   cases hq : (us s).drop k with
   | nil => rfl
   | cons x r => rw [List.takeWhile_cons_of_neg (by rw [hd x (by rw [hq]; rfl)]; decide)]
  rw [this]; simp
 ·rw [hsplit, List.dropWhile_append_of_pos hall]
  rw [List.take_append_drop]
  exact dropWhile_none nb _ hd
set_option maxHeartbeats 3200000 in
theorem seqR_c (s : ByteArray) (hs : s.size ≤ 4294967280) (w : World) :
  Calls Tryz.prog 47 #[.string s] w (SeqPost (seqR (us s)) w) := by
 have hl1 := trim_le (us s)
 rw [length_us] at hl1
 have HT := κ (fun wx => trimR_c s (by omega) wx)
 have HP := κ (show seqR (us s) = if (number ((trim (us s)).takeWhile nb) 2147483647).2 ≠ 0 ∨ token (trim ((trim (us s)).dropWhile nb)) = false then (0, [], 80)
  else ((number ((trim (us s)).takeWhile nb) 2147483647).1, trim ((trim (us s)).dropWhile nb), 0) from rfl)
 obtain ⟨T, hT⟩ : ∃ T, T = bs (trim (us s)) := ⟨_, rfl⟩
 have hTs : T.size ≤ 4294967280 := by rw [hT, size_bs]; omega
 have hTu : trim (us s) = us T := by rw [hT, us_bs]
 rw [← hT] at HT
 rw [hTu] at HP
 clear hT hTu hl1
 go_enter Tryz.func47, Tryz.ntmps47
 go_wp2_with (go_at_call 58; refine (HT.out _).mono ?_; rintro e wx ⟨rfl, rfl⟩)
 go_loop [5] (fun i => ∃ k : Nat, k ≤ T.size ∧ i = .int .i64 k ∧ ((us T).take k).all nb = true) (fun i => T.size - (intOf i).toNat)
 case atStart => exact ⟨0, Nat.zero_le _, rfl, rfl⟩
 case round =>
  obtain ⟨k, hk, rfl, hp⟩ := hrel
  have HA := κ hp
  clear hp
  by_cases hgo : ∃ h : k < T.size, blank T[k] = false
  ·obtain ⟨hlt, hbl⟩ := hgo
   have t1 : (cls T[k] != 32) = true := by unfold blank at hbl; simpa [bne] using hbl
   have HN := κ (show ((us T).take (k + 1)).all nb = true by rw [take_us T k hlt, List.all_append, HA.out]; simp [nb, hbl])
   clear hbl
   go_wp2_with (go_at_call 108; refine (classR_c _ _).mono ?_; rintro e wx ⟨rfl, rfl⟩)
   go_round
   case rel => exact ⟨k + 1, by omega, by go_num, HN.out⟩
   case measure => simp [intOf]; omega
  ·have he : ∀ h : k < T.size, blank T[k] = true := fun h => by
    cases hb : blank T[k]
    ·exact absurd ⟨h, hb⟩ hgo
    ·rfl
   obtain ⟨e1, e2⟩ := tw_at T k HA.out he
   rw [e1, e2] at HP
   have hx1 : (T.extract 0 k).size = k := by rw [ByteArray.size_extract]; omega
   have hx2 : (T.extract k T.size).size ≤ T.size := by rw [ByteArray.size_extract]; omega
   have HNm := κ (fun wx => numberR_c (T.extract 0 k) (by omega) 2147483647 (by decide) (by decide) wx)
   have HT2 := κ (fun wx => trimR_c (T.extract k T.size) (by omega) wx)
   have hl4 := trim_le (us (T.extract k T.size))
   rw [length_us] at hl4
   have HK := κ (fun wx => tokenR_c (bs (trim (us (T.extract k T.size)))) (by rw [size_bs]; omega) wx)
   rw [us_bs] at HK
   clear e1 e2 hl4 hx1 hx2 hgo
   obtain ⟨n, hn⟩ : ∃ n, n = number (us (T.extract 0 k)) 2147483647 := ⟨_, rfl⟩
   rw [← hn] at HNm HP
   obtain ⟨m, hm⟩ : ∃ m, m = trim (us (T.extract k T.size)) := ⟨_, rfl⟩
   rw [← hm] at HT2 HK HP
   clear hn hm
   obtain ⟨n, ne⟩ := n
   dsimp only at HNm HP
   have hcase : ((ne != 0) = true ∧ seqR (us s) = (0, [], 80)) ∨ ((ne != 0) = false ∧ token m = false ∧ seqR (us s) = (0, [], 80)) ∨ ((ne != 0) = false ∧ token m = true ∧ seqR (us s) = (n, m, 0)) := by
    rw [HP.out]
    cases hq : (ne != 0)
    case true => exact .inl ⟨rfl, if_pos (.inl (by simpa using hq))⟩
    refine .inr ?_
    cases ht : token m
    ·exact .inl ⟨rfl, rfl, if_pos (.inr rfl)⟩
    ·refine .inr ⟨rfl, rfl, if_neg ?_⟩
     rintro (h | h)
     ·exact h (by simpa using hq)
     ·cases h
   clear HP
   have hend : ¬ k < T.size ∨ ∃ h : k < T.size, (cls T[k] != 32) = false := by
    by_cases h : k < T.size
    ·refine .inr ⟨h, ?_⟩
     have := he h
     unfold blank at this
     simpa [bne] using this
    ·exact .inl h
   clear he
   have hB : Below w.heap.size w w := Below.refl _ _
   have q1 : (0 : Int) ≤ (k : Int) := by omega
   have q2 : (k : Int) ≤ (T.size : Int) := by omega
   rcases hcase with ⟨hne, hE⟩ | ⟨hne, htk, hE⟩ | ⟨hne, htk, hE⟩
   case inl =>
    have HE := κ hE
    clear hE
    rcases hend with hge | ⟨hlt, t1⟩
    all_goals
     go_wp2_with (first | (go_at_call 108; refine (classR_c _ _).mono ?_; rintro e wx ⟨rfl, rfl⟩) | (go_at_call 62; refine (HNm.out _).mono ?_; rintro e wx ⟨rfl, rfl⟩) | (go_at_call 58; refine (HT2.out _).mono ?_; rintro e wx ⟨rfl, rfl⟩))
     go_ret3
     exact ⟨by rw [HE.out]; rfl, hB⟩
   all_goals
    have HE := κ hE
    rw [htk] at HK
    clear hE htk
    rcases hend with hge | ⟨hlt, t1⟩
    all_goals
     go_wp2_with (first | (go_at_call 108; refine (classR_c _ _).mono ?_; rintro e wx ⟨rfl, rfl⟩) | (go_at_call 62; refine (HNm.out _).mono ?_; rintro e wx ⟨rfl, rfl⟩) | (go_at_call 58; refine (HT2.out _).mono ?_; rintro e wx ⟨rfl, rfl⟩) | (go_at_call 59; refine (HK.out _).mono ?_; rintro e wx ⟨rfl, rfl⟩))
     go_ret3
     exact ⟨by rw [HE.out]; rfl, hB⟩
end
theorem schemeR_c (s : ByteArray) (w : World) :
  Calls Tryz.prog 90 #[.string s] w fun e w' => e = .returned (.bool (schemeS (us s))) ∧ w = w' := by
 by_cases h1 : us s = nSip
 ·obtain rfl : s = ⟨#[115, 105, 112]⟩ := us_inj h1
  clear h1
  go_enter Tryz.func90, Tryz.ntmps90
  go_wp2
  go_ret
  exact ⟨ret_bool (by decide +kernel), rfl⟩
 by_cases h2 : us s = nSips
 ·obtain rfl : s = ⟨#[115, 105, 112, 115]⟩ := us_inj h2
  clear h1 h2
  go_enter Tryz.func90, Tryz.ntmps90
  go_wp2
  go_ret
  exact ⟨ret_bool (by decide +kernel), rfl⟩
 by_cases h3 : us s = nPres
 ·obtain rfl : s = ⟨#[112, 114, 101, 115]⟩ := us_inj h3
  clear h1 h2 h3
  go_enter Tryz.func90, Tryz.ntmps90
  go_wp2
  go_ret
  exact ⟨ret_bool (by decide +kernel), rfl⟩
 have HE := κ (show schemeS (us s) = false by unfold schemeS; simp [h1, h2, h3])
 have n1 : ¬ s.toList = [115, 105, 112] := by rw [toList_us]; exact h1
 have n2 : ¬ s.toList = [115, 105, 112, 115] := by rw [toList_us]; exact h2
 have n3 : ¬ s.toList = [112, 114, 101, 115] := by rw [toList_us]; exact h3
 clear h1 h2 h3
 go_enter Tryz.func90, Tryz.ntmps90
 go_wp2
 go_ret
 exact ⟨ret_bool (by rw [HE.out]; simp [n1, n2, n3]), rfl⟩
theorem regrownZ {w wq : World} (h : ∃ p : Regrown, wq = grow (redrawn w p.d) p.os) : Below w.heap.size w wq := by obtain ⟨⟨d, os⟩, rfl⟩ := h; exact below_regrown w d os
theorem okU_cs (p : Prm) (N V : ByteArray) (hN : N.size = p.name.length) (hV : V.size = p.value.length) :
  (N.size = 0 ∧ okU p = false) ∨ (N.size ≠ 0 ∧ 64 < N.size ∧ okU p = false) ∨ (N.size ≠ 0 ∧ ¬ 64 < N.size ∧ 64 < V.size ∧ okU p = false) ∨
  (N.size ≠ 0 ∧ ¬ 64 < N.size ∧ ¬ 64 < V.size ∧ p.has = false ∧ V.size ≠ 0 ∧ okU p = false) ∨
  (N.size ≠ 0 ∧ ¬ 64 < N.size ∧ ¬ 64 < V.size ∧ p.has = false ∧ V.size = 0 ∧ okU p = true) ∨ (N.size ≠ 0 ∧ ¬ 64 < N.size ∧ ¬ 64 < V.size ∧ p.has = true ∧ okU p = true) := by
 rcases okU_cases p N V hN hV false with h | h | h | ⟨_, _, _, h⟩ | ⟨a, b, c, _, d⟩ | ⟨a, b, c, _, d⟩ | ⟨a, b, c, _, d⟩
 ·exact .inl h
 ·exact .inr (.inl h)
 ·exact .inr (.inr (.inl h))
 ·cases h
 ·exact .inr (.inr (.inr (.inl ⟨a, b, c, d⟩)))
 ·exact .inr (.inr (.inr (.inr (.inl ⟨a, b, c, d⟩))))
 ·exact .inr (.inr (.inr (.inr (.inr ⟨a, b, c, d⟩))))
theorem twice_at (L : List Prm) (n : List UInt8) (j k : Nat) (hj : j < k) (hk : k ≤ L.length) (h : same (L[j]'(by omega)).name n = true) : twiceU (L.take k) n = true := by
 unfold twiceU
 exact List.any_eq_true.2 ⟨L[j]'(by omega), by rw [List.mem_take_iff_getElem]; exact ⟨j, by omega, rfl⟩, h⟩
theorem twice_next (L : List Prm) (n : List UInt8) (j : Nat) (hj : j < L.length) (h : same L[j].name n = false) (ht : twiceU (L.take j) n = false) : twiceU (L.take (j + 1)) n = false := by
 unfold twiceU at ht ⊢
 rw [List.take_succ_eq_append_getElem hj, List.any_append, ht]; simp [h]
set_option maxRecDepth 100000 in
set_option maxHeartbeats 6400000 in
theorem listR_c' (v : Value) (L : List Prm) (w : World) (h1 : RPrms w v L) (hbd : ∀ p ∈ L, p.name.length ≤ 4294967280 ∧ p.value.length ≤ 4294967280) :
  Calls Tryz.prog 141 #[v] w fun e w' => e = .returned (.bool (listU L)) ∧ Below w.heap.size w w' := by
 obtain ⟨ao, cap, rfl, hm1, c1⟩ := h1.form
 have C1 := κ c1
 have HBD := κ hbd
 clear c1 h1 hbd
 unfold maxLen at hm1
 by_cases h16 : L.length ≤ 16
 case neg =>
  have HE := κ (list_long L h16)
  go_enter Tryz.func141, Tryz.ntmps141
  go_wp2
  go_ret
  exact ⟨ret_bool HE.out.symm, Below.refl _ _⟩
 ·have HLB := κ (fun k hk => list_bad L k hk)
  have HLN := κ (fun k hk => list_next L k hk)
  have HLE := κ (fun k hk => list_end L k hk h16)
  have HTA := κ (fun n j k => twice_at L n j k)
  have HTN := κ (fun n j => twice_next L n j)
  go_enter Tryz.func141, Tryz.ntmps141
  go_wp2
  go_loopw [3] (fun i wr => ∃ k : Nat, k ≤ L.length ∧ i = .int .i64 k ∧ Below w.heap.size w wr ∧ Hid (listGo [] L = listGo (L.take k) (L.drop k))) (fun i _ => L.length - (intOf i).toNat)
  case atStart => exact ⟨0, Nat.zero_le _, rfl, Below.refl _ _, κ rfl⟩
  case round =>
   obtain ⟨k, hk, rfl, hB, HP⟩ := hrel
   by_cases hlt : k < L.length
   ·obtain ⟨b, off, rfl, hb1, hc1⟩ := C1.out (by omega)
    have X0 := κ (fun j (hj : j < L.length) (wx : World) (hx : Below w.heap.size w wx) => (show wx.cell? ⟨b, off + j * 3, none⟩ = some (.string (bs L[j].name)) from by rw [hx.cell (p := ⟨b, off + j * 3, none⟩) hb1]; exact (hc1 j hj).1))
    have x0 : wr.cell? ⟨b, off + k * 3, none⟩ = some (.string (bs L[k].name)) := by rw [hB.cell (p := ⟨b, off + k * 3, none⟩) hb1]; exact (hc1 k hlt).1
    have x1 : wr.cell? ⟨b, off + k * 3 + 1, none⟩ = some (.string (bs L[k].value)) := by rw [hB.cell (p := ⟨b, off + k * 3 + 1, none⟩) hb1]; exact (hc1 k hlt).2.1
    have x2 : wr.cell? ⟨b, off + k * 3 + 2, none⟩ = some (.bool L[k].has) := by rw [hB.cell (p := ⟨b, off + k * 3 + 2, none⟩) hb1]; exact (hc1 k hlt).2.2
    have hpb := HBD.out _ (List.getElem_mem hlt)
    have hcs := okU_cs L[k] (bs L[k].name) (bs L[k].value) (size_bs _) (size_bs _)
    have hsm := fun j (hj : j < L.length) wx => sameR_c (bs L[j].name) (bs L[k].name) (by rw [size_bs]; have := HBD.out _ (List.getElem_mem hj); omega) (by rw [size_bs]; omega) wx
    simp only [us_bs] at hsm
    obtain ⟨PN, hPN⟩ : ∃ x, x = L[k].name := ⟨_, rfl⟩
    obtain ⟨N, hN⟩ : ∃ N, N = bs L[k].name := ⟨_, rfl⟩
    rw [← hN] at x0 hcs hsm
    rw [← hPN] at hsm
    have HLBk := κ (fun h => HLB.out k hlt HP.out (.inr (hPN ▸ h)))
    have HLNk := κ (fun h1 h2 => HLN.out k hlt HP.out h1 (hPN ▸ h2))
    have HSM := κ hsm
    obtain ⟨V, hV⟩ : ∃ V, V = bs L[k].value := ⟨_, rfl⟩
    rw [← hV] at x1 hcs
    have hNs : N.size ≤ 4294967280 := by rw [hN, size_bs]; omega
    have hVs : V.size ≤ 4294967280 := by rw [hV, size_bs]; omega
    have k0 : (0 : Int) ≤ (k : Int) := by omega
    have k1 : (k : Int) < (L.length : Int) := by omega
    obtain ⟨h, hh⟩ : ∃ h, h = L[k].has := ⟨_, rfl⟩
    rw [← hh] at x2 hcs
    have bm0 : Blk (wr.alloc (.cells #[.string N, .string V, .bool h] 170)) wr.heap.size 170 #[.string N, .string V, .bool h] := Blk.new _ _ _
    have hBp := hB.alloc hB.size (.cells #[.string N, .string V, .bool h] 170)
    have HBM := κ bm0
    obtain ⟨r0, r1, r2, f0, f1, f2, hz⟩ := bm0.f3
    clear hc1 hb1 hpb hsm hPN hN hV hh bm0
    rcases hcs with ⟨n1, ho⟩ | ⟨n1, n2, ho⟩ | ⟨n1, n2, n3, ho⟩ | ⟨n1, n2, n3, rfl, n4, ho⟩ | ⟨n1, n2, n3, rfl, n4, ho⟩ | ⟨n1, n2, n3, rfl, ho⟩
    obtain rfl := eq_empty n1
    clear n1
    rotate_left
    have pE := ne_empty n1
    have pF := isEmpty_f n1
    rotate_left
    have pE := ne_empty n1
    have pF := isEmpty_f n1
    rotate_left
    have pE := ne_empty n1
    have pF := isEmpty_f n1
    have qE := ne_empty n4
    have qF := isEmpty_f n4
    rotate_left
    ·have pE := ne_empty n1
     have pF := isEmpty_f n1
     obtain rfl := eq_empty n4
     clear n4
     have HO := κ ho
     clear ho
     go_wp2
     obtain ⟨w1, hw1⟩ : ∃ x, x = wr.alloc (.cells #[.string N, .string ByteArray.empty, .bool false] 170) := ⟨_, rfl⟩
     rw [← hw1] at hBp r0 r1 r2 HBM
     (try rw [← hw1])
     go_loopw [5] (fun i wv => ∃ j : Nat, j ≤ k ∧ i = .int .i64 j ∧ Below w1.heap.size w1 wv ∧ Hid (twiceU (L.take j) PN = false)) (fun i _ => k - (intOf i).toNat)
     case atStart => exact ⟨0, Nat.zero_le _, rfl, Below.refl _ _, κ rfl⟩
     case round =>
      clear r0 r1 r2
      obtain ⟨j, hj, rfl, hBj, HT⟩ := hrel
      have hBw := hBp.trans (hBj.mono hBp.size)
      obtain ⟨r0, r1, r2, _, _, _, _⟩ := (HBM.out.call hBj).f3
      by_cases hjk : j < k
      ·have z0 := cell_regrown (X0.out j (by omega) _ hBw)
       have y0 := cell_regrown r0
       have cS := fun d os => Calls.regrown_of (HSM.out j (by omega) (grow (redrawn wr d) os))
       have j0 : (0 : Int) ≤ (j : Int) := by omega
       have j1 : (j : Int) < (k : Int) := by omega
       have j2 : (j : Int) < (L.length : Int) := by omega
       cases hq : same (L[j]'(by omega)).name PN with
       | true =>
        have HY := κ (HLBk.out (HTA.out PN j k hjk hk hq))
        rw [hq] at cS; clear hq
        obtain ⟨M, hM⟩ : ∃ x, x = bs (L[j]'(by omega)).name := ⟨_, rfl⟩
        rw [← hM] at z0 cS
        clear hM
        go_wp2
        refine wp_region_quiet_below (by kernel_rfl) (by kernel_rfl) ?_
        repeat (first | go_big_quiet_step (with_reducible exact cS _ _) | quiet_step (with_reducible exact cS _ _))
        refine wpQuiet_nil ?_
        intro wq hw'
        have hBq := regrownZ hw'
        clear hw' cS y0 z0
        have hBv := hBw.trans (hBq.mono hBw.size)
        go_wp2
        go_ret
        exact ⟨ret_bool HY.out.symm, hBv⟩
       | false =>
        have HY := κ (HTN.out PN j (by omega) hq HT.out)
        rw [hq] at cS; clear hq
        obtain ⟨M, hM⟩ : ∃ x, x = bs (L[j]'(by omega)).name := ⟨_, rfl⟩
        rw [← hM] at z0 cS
        clear hM
        go_wp2
        refine wp_region_quiet_below (by kernel_rfl) (by kernel_rfl) ?_
        repeat (first | go_big_quiet_step (with_reducible exact cS _ _) | quiet_step (with_reducible exact cS _ _))
        refine wpQuiet_nil ?_
        intro wq hw'
        have hBq := regrownZ hw'
        clear hw' cS y0 z0
        have hBv := hBw.trans (hBq.mono hBw.size)
        go_wp2
        go_roundw
        case rel => exact ⟨j + 1, by omega, by go_num, hBj.trans (hBq.mono hBj.size), HY⟩
        case measure => simp [intOf]; omega
      ·obtain rfl : j = k := by omega
       have HN := κ (HLNk.out HO.out HT.out)
       go_wp2
       go_roundw
       case rel => exact ⟨j + 1, by omega, by go_num, hBw, HN⟩
       case measure => simp [intOf]; omega
    ·have pE := ne_empty n1
     have pF := isEmpty_f n1
     have HO := κ ho
     clear ho
     go_wp2
     obtain ⟨w1, hw1⟩ : ∃ x, x = wr.alloc (.cells #[.string N, .string V, .bool true] 170) := ⟨_, rfl⟩
     rw [← hw1] at hBp r0 r1 r2 HBM
     (try rw [← hw1])
     go_loopw [5] (fun i wv => ∃ j : Nat, j ≤ k ∧ i = .int .i64 j ∧ Below w1.heap.size w1 wv ∧ Hid (twiceU (L.take j) PN = false)) (fun i _ => k - (intOf i).toNat)
     case atStart => exact ⟨0, Nat.zero_le _, rfl, Below.refl _ _, κ rfl⟩
     case round =>
      clear r0 r1 r2
      obtain ⟨j, hj, rfl, hBj, HT⟩ := hrel
      have hBw := hBp.trans (hBj.mono hBp.size)
      obtain ⟨r0, r1, r2, _, _, _, _⟩ := (HBM.out.call hBj).f3
      by_cases hjk : j < k
      ·have z0 := cell_regrown (X0.out j (by omega) _ hBw)
       have y0 := cell_regrown r0
       have cS := fun d os => Calls.regrown_of (HSM.out j (by omega) (grow (redrawn wr d) os))
       have j0 : (0 : Int) ≤ (j : Int) := by omega
       have j1 : (j : Int) < (k : Int) := by omega
       have j2 : (j : Int) < (L.length : Int) := by omega
       cases hq : same (L[j]'(by omega)).name PN with
       | true =>
        have HY := κ (HLBk.out (HTA.out PN j k hjk hk hq))
        rw [hq] at cS; clear hq
        obtain ⟨M, hM⟩ : ∃ x, x = bs (L[j]'(by omega)).name := ⟨_, rfl⟩
        rw [← hM] at z0 cS
        clear hM
        go_wp2
        refine wp_region_quiet_below (by kernel_rfl) (by kernel_rfl) ?_
        repeat (first | go_big_quiet_step (with_reducible exact cS _ _) | quiet_step (with_reducible exact cS _ _))
        refine wpQuiet_nil ?_
        intro wq hw'
        have hBq := regrownZ hw'
        clear hw' cS y0 z0
        have hBv := hBw.trans (hBq.mono hBw.size)
        go_wp2
        go_ret
        exact ⟨ret_bool HY.out.symm, hBv⟩
       | false =>
        have HY := κ (HTN.out PN j (by omega) hq HT.out)
        rw [hq] at cS; clear hq
        obtain ⟨M, hM⟩ : ∃ x, x = bs (L[j]'(by omega)).name := ⟨_, rfl⟩
        rw [← hM] at z0 cS
        clear hM
        go_wp2
        refine wp_region_quiet_below (by kernel_rfl) (by kernel_rfl) ?_
        repeat (first | go_big_quiet_step (with_reducible exact cS _ _) | quiet_step (with_reducible exact cS _ _))
        refine wpQuiet_nil ?_
        intro wq hw'
        have hBq := regrownZ hw'
        clear hw' cS y0 z0
        have hBv := hBw.trans (hBq.mono hBw.size)
        go_wp2
        go_roundw
        case rel => exact ⟨j + 1, by omega, by go_num, hBj.trans (hBq.mono hBj.size), HY⟩
        case measure => simp [intOf]; omega
      ·obtain rfl : j = k := by omega
       have HN := κ (HLNk.out HO.out HT.out)
       go_wp2
       go_roundw
       case rel => exact ⟨j + 1, by omega, by go_num, hBw, HN⟩
       case measure => simp [intOf]; omega
    all_goals
     have HE := κ (HLB.out k hlt HP.out (.inl ho))
     clear ho
     go_wp2
     go_ret
     exact ⟨ret_bool HE.out.symm, hBp⟩
   ·have HE := κ (HLE.out k (by omega) HP.out)
    go_wp2
    go_ret
    exact ⟨ret_bool HE.out.symm, hB⟩
end Go.Proofs.YtgkilllbkljibaaGreatDoor
