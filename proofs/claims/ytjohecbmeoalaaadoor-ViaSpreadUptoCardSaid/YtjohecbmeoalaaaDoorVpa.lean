/-
  via.Parse, rosterref07.Parse.
-/
import Derived.Test.YtjohecbmeoalaaaDoorAnx
import Derived.Test.YtjohecbmeoalaaaDoorWhr
import Derived.Test.YtjohecbmeoalaaaDoorVpr
namespace Go.Proofs.YtjohecbmeoalaaaDoor
open Go.RowKit

/-- a hop, or what is wrong, in memory -/
def HopPost (r : Hop × Int) (w : World) (e : Ending) (w' : World) : Prop :=
  ∃ u, e = .returned (.tuple #[.agg #[sv r.1.host, .int .i64 r.1.port, u], .int .i64 r.2]) ∧ RPrms w' u r.1.ps ∧ Fresh w.heap.size u ∧ Below w.heap.size w w'
theorem fst_le : ∀ l : List UInt8, fstB l ≤ (l.length : Int)
  | [] => by decide
  | c :: r => by
    have := fst_le r
    rw [fstB, List.length_cons]
    split
    · omega
    · split <;> omega
theorem parse1_cases (T : ByteArray) :
    (fstB (us T) < 0 ∧ parse1 (us T) = (hop0, 70)) ∨
    ∃ i : Nat, fstB (us T) = (i : Int) ∧ i ≤ T.size ∧
      ((same (us (T.extract 0 i)) nProto = false ∧ parse1 (us T) = (hop0, 70)) ∨
       (same (us (T.extract 0 i)) nProto = true ∧ ∃ x r, parts (us (T.extract i T.size)) 59 = x :: r ∧ parse1 (us T) = endV (whereS (trim x)) (fieldsS r))) := by
  by_cases h0 : fstB (us T) < 0
  · refine .inl ⟨h0, ?_⟩
    unfold parse1
    rw [if_neg (by rintro ⟨h, _⟩; omega)]
  · refine .inr ⟨(fstB (us T)).toNat, by omega, ?_, ?_⟩
    · have := fst_le (us T); rw [length_us] at this; omega
    · have e1 : us (T.extract 0 (fstB (us T)).toNat) = (us T).take (fstB (us T)).toNat := by rw [us_extract]; rfl
      rw [e1, us_tail]
      unfold parse1
      cases hs : same ((us T).take (fstB (us T)).toNat) nProto
      · exact .inl ⟨rfl, if_neg (by rintro ⟨_, h⟩; cases h)⟩
      · refine .inr ⟨rfl, ?_⟩
        rw [if_pos ⟨by omega, rfl⟩]
        cases hp : parts ((us T).drop (fstB (us T)).toNat) 59 with
        | nil => exact absurd hp (parts_ne _ _)
        | cons x r => exact ⟨x, r, rfl, rfl⟩

set_option maxRecDepth 100000 in
set_option maxHeartbeats 6400000 in
theorem parseV_c (s : ByteArray) (hs : s.size ≤ 4294967280) (w : World) (hm : Ml w) :
    Calls Tryd.prog 10 #[.string s] w (HopPost (parseV (us s)) w) := by
  have HM := Lib.hid hm
  clear hm
  have HTR := Lib.hid (fun wx => trim_c s (by omega) wx)
  have htl := trim_le (us s)
  rw [length_us] at htl
  have hpv : parseV (us s) = parse1 (trim (us s)) := rfl
  obtain ⟨T, hT⟩ : ∃ T, T = bs (trim (us s)) := ⟨_, rfl⟩
  have uT : trim (us s) = us T := by rw [hT, us_bs]
  have sT : T.size ≤ 4294967280 := by rw [hT, size_bs]; omega
  rw [← hT] at HTR
  rw [hpv, uT]
  clear hT uT hpv htl hs
  have HIX := Lib.hid (fun wx => indexAny_c ⟨#[32, 9]⟩ rfl T (by omega) wx)
  have hcs := parse1_cases T
  obtain ⟨R, hR⟩ : ∃ R, R = parse1 (us T) := ⟨_, rfl⟩
  rw [← hR] at hcs ⊢
  clear hR
  have hB0 : Below w.heap.size w (w.alloc (.cells #[.string ⟨#[]⟩, .int .i64 0, .slice none 0 0] 25)) := (Below.refl _ _).alloc (Nat.le_refl _) _
  have bm0 := Blk.new w 25 #[.string ⟨#[]⟩, .int .i64 0, .slice none 0 0]
  have hw0s : (w.alloc (.cells #[.string ⟨#[]⟩, .int .i64 0, .slice none 0 0] 25)).heap.size = w.heap.size + 1 := World.size_alloc _ _
  obtain ⟨w0, hw0⟩ : ∃ w0, w0 = w.alloc (.cells #[.string ⟨#[]⟩, .int .i64 0, .slice none 0 0] 25) := ⟨_, rfl⟩
  rw [← hw0] at hB0 bm0 hw0s
  have HW0 := Lib.hid hw0
  have HX := Lib.hid (fun (wx : World) (h : Below w0.heap.size w0 wx) => (show Blk wx w.heap.size 25 #[.string ⟨#[]⟩, .int .i64 0, .slice none 0 0] ∧ Below w.heap.size w wx ∧ Ml wx from ⟨bm0.call h, hB0.trans (h.mono hB0.size), HM.out.below (hB0.trans (h.mono hB0.size))⟩))
  have hZ : Below w0.heap.size w0 w0 := Below.refl _ _
  have HL0 := Lib.hid (fun (wx : World) (h : Below w0.heap.size w0 wx) => (show w.heap.size < wx.heap.size from by have := h.size; omega))
  obtain ⟨bm, hBB, hMM⟩ := HX.out _ hZ
  obtain ⟨r0, r1, r2, f0, f1, f2, hz⟩ := bm.f3
  clear hw0 bm0 hB0 hw0s
  rcases hcs with ⟨h0, rfl⟩ | ⟨i, hi, hiT, hcs⟩
  · obtain ⟨z, hz0⟩ : ∃ z, z = fstB (us T) := ⟨_, rfl⟩
    rw [← hz0] at h0 HIX
    have HIF := Lib.hid (rfl : z = z)
    clear hz0
    go_enter Tryd.func10, Tryd.ntmps10
    go_wp2_with (first | (go_at_call 25; (try rw [← HW0.out]); ((with_reducible refine (HTR.out _).mono ?_); rintro e wt ⟨rfl, rfl⟩)) | (go_at_call 26; refine (HIX.out _).mono ?_; rintro e w1 ⟨rfl, hC1⟩; have hZ := hZ.trans (hC1.mono hZ.size); (try rw [HIF.out]); obtain ⟨bm, hBB, hMM⟩ := HX.out _ hZ; obtain ⟨r0, r1, r2, f0, f1, f2, hz⟩ := bm.f3))
    refine bodyPost_ret (v := .tuple #[.agg #[.string ⟨#[]⟩, .int .i64 0, .slice none 0 0], .int .i64 70]) (by simp [results, Tryd.results10, go_sem, r0, r1, r2]) rfl ?_
    exact ⟨_, rfl, .inl ⟨⟨_, _, rfl⟩, rfl⟩, Fresh.nil _ _ _, ((hBB.setCell (Nat.le_refl _) _).setCell (Nat.le_refl _) _).setCell (Nat.le_refl _) _⟩
  · rw [hi] at HIX
    have HIF := Lib.hid hi
    clear hi
    have i0 : ¬ ((i : Int) < 0) := by omega
    have i1 : (i : Int) ≤ (T.size : Int) := by omega
    have HSM := Lib.hid (fun wx => same_c (T.extract 0 i) ⟨#[83, 73, 80, 47, 50, 46, 48, 47, 85, 68, 80]⟩ (by rw [size_extract _ _ _ hiT]; omega) (by decide) wx)
    rw [show us ⟨#[83, 73, 80, 47, 50, 46, 48, 47, 85, 68, 80]⟩ = nProto from rfl] at HSM
    have HPC := Lib.hid (fun wx => parts_c (T.extract i T.size) (by rw [← length_us, us_tail, List.length_drop, length_us]; omega) 59 wx)
    rcases hcs with ⟨h2, rfl⟩ | ⟨h2, x, r, hP, hR⟩
    · rw [h2] at HSM
      clear h2 HPC
      go_enter Tryd.func10, Tryd.ntmps10
      go_wp2_with (first | (go_at_call 25; (try rw [← HW0.out]); ((with_reducible refine (HTR.out _).mono ?_); rintro e wt ⟨rfl, rfl⟩)) | (go_at_call 26; refine (HIX.out _).mono ?_; rintro e w1 ⟨rfl, hC1⟩; have hZ := hZ.trans (hC1.mono hZ.size); (try rw [HIF.out]); obtain ⟨bm, hBB, hMM⟩ := HX.out _ hZ; obtain ⟨r0, r1, r2, f0, f1, f2, hz⟩ := bm.f3) | (go_at_call 27; refine (HSM.out _).mono ?_; rintro e w2 ⟨rfl, hD2⟩; have hZ := hZ.trans hD2.below; obtain ⟨bm, hBB, hMM⟩ := HX.out _ hZ; obtain ⟨r0, r1, r2, f0, f1, f2, hz⟩ := bm.f3))
      refine bodyPost_ret (v := .tuple #[.agg #[.string ⟨#[]⟩, .int .i64 0, .slice none 0 0], .int .i64 70]) (by simp [results, Tryd.results10, go_sem, r0, r1, r2]) rfl ?_
      exact ⟨_, rfl, .inl ⟨⟨_, _, rfl⟩, rfl⟩, Fresh.nil _ _ _, ((hBB.setCell (Nat.le_refl _) _).setCell (Nat.le_refl _) _).setCell (Nat.le_refl _) _⟩
    · rw [h2] at HSM
      have HBD := Lib.hid (fun p hp => Nat.le_trans (parts_bd 59 (us (T.extract i T.size)) p hp) (by rw [us_tail, List.length_drop, length_us]; omega : (us (T.extract i T.size)).length ≤ 4294967280))
      rw [hP] at HPC HBD
      clear h2 hP
      have hxl := HBD.out x (List.mem_cons_self ..)
      have htx := trim_le x
      have HTX := Lib.hid (fun wx => trim_c (bs x) (by rw [size_bs]; omega) wx)
      rw [us_bs] at HTX
      have HWH := Lib.hid (fun wx hx => where_c (bs (trim x)) (by rw [size_bs]; omega) wx hx)
      rw [us_bs] at HWH
      have HFC := Lib.hid (fun wx v hx hv => fields_c v r wx hx hv (fun p hp => HBD.out p (List.mem_cons_of_mem _ hp)))
      obtain ⟨W, hW⟩ : ∃ W, W = whereS (trim x) := ⟨_, rfl⟩
      obtain ⟨F, hF⟩ : ∃ F, F = fieldsS r := ⟨_, rfl⟩
      rw [← hW] at HWH hR
      rw [← hF] at HFC hR
      clear hW hF hxl htx HBD
      obtain ⟨⟨hl, p⟩, we⟩ := W
      obtain ⟨F, fe⟩ := F
      dsimp only at HWH HFC
      obtain ⟨H, hHd⟩ : ∃ H, H = bs hl := ⟨_, rfl⟩
      rw [← hHd] at HWH
      have HHd := Lib.hid hHd
      clear hHd
      by_cases w0' : we = 0
      · subst w0'
        by_cases f0' : fe = 0
        · subst f0'
          obtain rfl : R = (⟨hl, p, F⟩, 0) := by exact hR
          clear hR
          go_enter Tryd.func10, Tryd.ntmps10
          go_wp2_with (first | (go_at_call 25; (try rw [← HW0.out]); ((with_reducible refine (HTR.out _).mono ?_); rintro e wt ⟨rfl, rfl⟩)) | (go_at_call 26; refine (HIX.out _).mono ?_; rintro e w1 ⟨rfl, hC1⟩; have hZ := hZ.trans (hC1.mono hZ.size); (try rw [HIF.out]); obtain ⟨bm, hBB, hMM⟩ := HX.out _ hZ; obtain ⟨r0, r1, r2, f0, f1, f2, hz⟩ := bm.f3) | (go_at_call 25; ((with_reducible refine (HTX.out _).mono ?_); rintro e wt ⟨rfl, rfl⟩)) | (go_at_call 27; refine (HSM.out _).mono ?_; rintro e w2 ⟨rfl, hD2⟩; have hZ := hZ.trans hD2.below; obtain ⟨bm, hBB, hMM⟩ := HX.out _ hZ; obtain ⟨r0, r1, r2, f0, f1, f2, hz⟩ := bm.f3) | (go_at_call 28; refine (HPC.out _).mono ?_; rintro e w3 ⟨v, rfl, hv, hC3⟩; have hZ := hZ.trans (hC3.mono hZ.size); obtain ⟨bm, hBB, hMM⟩ := HX.out _ hZ; obtain ⟨r0, r1, r2, f0, f1, f2, hz⟩ := bm.f3; have HV := Lib.hid hv; obtain ⟨ao, cap, rfl, hm1, c1⟩ := hv.form; obtain ⟨b, off, rfl, hb1, hc1⟩ := c1 (by simp); have x0 := hc1 0 (by simp); rw [Nat.add_zero] at x0; have k1 : (0 : Int) < ((x :: r).length : Int) := (by simp); clear hc1 c1; unfold maxLen at hm1) | (go_at_call 29; refine (HWH.out _ hMM).mono ?_; rintro e w4 ⟨rfl, hC4⟩; have hZ := hZ.trans (hC4.mono hZ.size); obtain ⟨bm, hBB, hMM⟩ := HX.out _ hZ; obtain ⟨r0, r1, r2, f0, f1, f2, hz⟩ := bm.f3; have HV := Lib.hid (HV.out.below hC4 (Nat.le_refl _))) | (go_at_call 30; refine (HFC.out _ _ hMM (by first | exact HV.out.tailB | exact HV.out.tailA (by first | assumption | omega))).mono ?_; rintro e w5 ⟨u, rfl, hu, hF0, hC5⟩; have hlt := HL0.out _ hZ; have hZ := hZ.trans (hC5.mono hZ.size); obtain ⟨bm, hBB, hMM⟩ := HX.out _ hZ; obtain ⟨r0, r1, r2, f0, f1, f2, hz⟩ := bm.f3; have HU := Lib.hid hu; obtain ⟨ao', cp, rfl, hml, hcl⟩ := hu.form; clear hu hcl))
          all_goals
            refine bodyPost_ret (v := .tuple #[.agg #[.string H, .int .i64 p, .slice ao' F.length cp], .int .i64 0]) (by simp [results, Tryd.results10, go_sem, r0, r1, r2]) rfl ?_
            exact ⟨_, by (rw [HHd.out]; rfl), ((HU.out.set hF0 hlt _).set hF0 hlt _).set hF0 hlt _, hF0.mono (Nat.le_of_lt hlt), ((hBB.setCell (Nat.le_refl _) _).setCell (Nat.le_refl _) _).setCell (Nat.le_refl _) _⟩
        · obtain rfl : R = (hop0, fe) := by
            rw [hR]; unfold endV; rw [if_neg (fun h => h rfl), if_pos f0']
          have t7 : (fe != 0) = true := by simpa using f0'
          clear hR f0'
          go_enter Tryd.func10, Tryd.ntmps10
          go_wp2_with (first | (go_at_call 25; (try rw [← HW0.out]); ((with_reducible refine (HTR.out _).mono ?_); rintro e wt ⟨rfl, rfl⟩)) | (go_at_call 26; refine (HIX.out _).mono ?_; rintro e w1 ⟨rfl, hC1⟩; have hZ := hZ.trans (hC1.mono hZ.size); (try rw [HIF.out]); obtain ⟨bm, hBB, hMM⟩ := HX.out _ hZ; obtain ⟨r0, r1, r2, f0, f1, f2, hz⟩ := bm.f3) | (go_at_call 25; ((with_reducible refine (HTX.out _).mono ?_); rintro e wt ⟨rfl, rfl⟩)) | (go_at_call 27; refine (HSM.out _).mono ?_; rintro e w2 ⟨rfl, hD2⟩; have hZ := hZ.trans hD2.below; obtain ⟨bm, hBB, hMM⟩ := HX.out _ hZ; obtain ⟨r0, r1, r2, f0, f1, f2, hz⟩ := bm.f3) | (go_at_call 28; refine (HPC.out _).mono ?_; rintro e w3 ⟨v, rfl, hv, hC3⟩; have hZ := hZ.trans (hC3.mono hZ.size); obtain ⟨bm, hBB, hMM⟩ := HX.out _ hZ; obtain ⟨r0, r1, r2, f0, f1, f2, hz⟩ := bm.f3; have HV := Lib.hid hv; obtain ⟨ao, cap, rfl, hm1, c1⟩ := hv.form; obtain ⟨b, off, rfl, hb1, hc1⟩ := c1 (by simp); have x0 := hc1 0 (by simp); rw [Nat.add_zero] at x0; have k1 : (0 : Int) < ((x :: r).length : Int) := (by simp); clear hc1 c1; unfold maxLen at hm1) | (go_at_call 29; refine (HWH.out _ hMM).mono ?_; rintro e w4 ⟨rfl, hC4⟩; have hZ := hZ.trans (hC4.mono hZ.size); obtain ⟨bm, hBB, hMM⟩ := HX.out _ hZ; obtain ⟨r0, r1, r2, f0, f1, f2, hz⟩ := bm.f3; have HV := Lib.hid (HV.out.below hC4 (Nat.le_refl _))) | (go_at_call 30; refine (HFC.out _ _ hMM (by first | exact HV.out.tailB | exact HV.out.tailA (by first | assumption | omega))).mono ?_; rintro e w5 ⟨u, rfl, hu, hF0, hC5⟩; have hlt := HL0.out _ hZ; have hZ := hZ.trans (hC5.mono hZ.size); obtain ⟨bm, hBB, hMM⟩ := HX.out _ hZ; obtain ⟨r0, r1, r2, f0, f1, f2, hz⟩ := bm.f3; have HU := Lib.hid hu; obtain ⟨ao', cp, rfl, hml, hcl⟩ := hu.form; clear hu hcl))
          all_goals
            refine bodyPost_ret (v := .tuple #[.agg #[.string ⟨#[]⟩, .int .i64 0, .slice none 0 0], .int .i64 fe]) (by simp [results, Tryd.results10, go_sem, r0, r1, r2]) rfl ?_
            exact ⟨_, rfl, .inl ⟨⟨_, _, rfl⟩, rfl⟩, Fresh.nil _ _ _, ((hBB.setCell (Nat.le_refl _) _).setCell (Nat.le_refl _) _).setCell (Nat.le_refl _) _⟩
      · obtain rfl : R = (hop0, we) := by
          rw [hR]; unfold endV; rw [if_pos w0']
        have t7 : (we != 0) = true := by simpa using w0'
        clear hR w0'
        go_enter Tryd.func10, Tryd.ntmps10
        go_wp2_with (first | (go_at_call 25; (try rw [← HW0.out]); ((with_reducible refine (HTR.out _).mono ?_); rintro e wt ⟨rfl, rfl⟩)) | (go_at_call 26; refine (HIX.out _).mono ?_; rintro e w1 ⟨rfl, hC1⟩; have hZ := hZ.trans (hC1.mono hZ.size); (try rw [HIF.out]); obtain ⟨bm, hBB, hMM⟩ := HX.out _ hZ; obtain ⟨r0, r1, r2, f0, f1, f2, hz⟩ := bm.f3) | (go_at_call 25; ((with_reducible refine (HTX.out _).mono ?_); rintro e wt ⟨rfl, rfl⟩)) | (go_at_call 27; refine (HSM.out _).mono ?_; rintro e w2 ⟨rfl, hD2⟩; have hZ := hZ.trans hD2.below; obtain ⟨bm, hBB, hMM⟩ := HX.out _ hZ; obtain ⟨r0, r1, r2, f0, f1, f2, hz⟩ := bm.f3) | (go_at_call 28; refine (HPC.out _).mono ?_; rintro e w3 ⟨v, rfl, hv, hC3⟩; have hZ := hZ.trans (hC3.mono hZ.size); obtain ⟨bm, hBB, hMM⟩ := HX.out _ hZ; obtain ⟨r0, r1, r2, f0, f1, f2, hz⟩ := bm.f3; have HV := Lib.hid hv; obtain ⟨ao, cap, rfl, hm1, c1⟩ := hv.form; obtain ⟨b, off, rfl, hb1, hc1⟩ := c1 (by simp); have x0 := hc1 0 (by simp); rw [Nat.add_zero] at x0; have k1 : (0 : Int) < ((x :: r).length : Int) := (by simp); clear hc1 c1; unfold maxLen at hm1) | (go_at_call 29; refine (HWH.out _ hMM).mono ?_; rintro e w4 ⟨rfl, hC4⟩; have hZ := hZ.trans (hC4.mono hZ.size); obtain ⟨bm, hBB, hMM⟩ := HX.out _ hZ; obtain ⟨r0, r1, r2, f0, f1, f2, hz⟩ := bm.f3; have HV := Lib.hid (HV.out.below hC4 (Nat.le_refl _))))
        refine bodyPost_ret (v := .tuple #[.agg #[.string ⟨#[]⟩, .int .i64 0, .slice none 0 0], .int .i64 we]) (by simp [results, Tryd.results10, go_sem, r0, r1, r2]) rfl ?_
        exact ⟨_, rfl, .inl ⟨⟨_, _, rfl⟩, rfl⟩, Fresh.nil _ _ _, ((hBB.setCell (Nat.le_refl _) _).setCell (Nat.le_refl _) _).setCell (Nat.le_refl _) _⟩

set_option maxRecDepth 100000 in
set_option maxHeartbeats 6400000 in
theorem parseVR_c (s : ByteArray) (hs : s.size ≤ 4294967280) (w : World) :
    Calls Tryd.prog 11 #[.string s] w (HopPost (parseV (us s)) w) := by
  have HTR := Lib.hid (fun wx => trimR_c s (by omega) wx)
  have htl := trim_le (us s)
  rw [length_us] at htl
  have hpv : parseV (us s) = parse1 (trim (us s)) := rfl
  obtain ⟨T, hT⟩ : ∃ T, T = bs (trim (us s)) := ⟨_, rfl⟩
  have uT : trim (us s) = us T := by rw [hT, us_bs]
  have sT : T.size ≤ 4294967280 := by rw [hT, size_bs]; omega
  rw [← hT] at HTR
  rw [hpv, uT]
  clear hT uT hpv htl hs
  have hcs := parse1_cases T
  obtain ⟨R, hR⟩ : ∃ R, R = parse1 (us T) := ⟨_, rfl⟩
  rw [← hR] at hcs ⊢
  clear hR
  have hB0 : Below w.heap.size w (w.alloc (.cells #[.string ⟨#[]⟩, .int .i64 0, .slice none 0 0] 25)) := (Below.refl _ _).alloc (Nat.le_refl _) _
  have bm0 := Blk.new w 25 #[.string ⟨#[]⟩, .int .i64 0, .slice none 0 0]
  have hw0s : (w.alloc (.cells #[.string ⟨#[]⟩, .int .i64 0, .slice none 0 0] 25)).heap.size = w.heap.size + 1 := World.size_alloc _ _
  obtain ⟨w0, hw0⟩ : ∃ w0, w0 = w.alloc (.cells #[.string ⟨#[]⟩, .int .i64 0, .slice none 0 0] 25) := ⟨_, rfl⟩
  rw [← hw0] at hB0 bm0 hw0s
  have HW0 := Lib.hid hw0
  have HX := Lib.hid (fun (wx : World) (h : Below w0.heap.size w0 wx) => (show Blk wx w.heap.size 25 #[.string ⟨#[]⟩, .int .i64 0, .slice none 0 0] ∧ Below w.heap.size w wx from ⟨bm0.call h, hB0.trans (h.mono hB0.size)⟩))
  have hZ : Below w0.heap.size w0 w0 := Below.refl _ _
  have HL0 := Lib.hid (fun (wx : World) (h : Below w0.heap.size w0 wx) => (show w.heap.size < wx.heap.size from by have := h.size; omega))
  obtain ⟨bm, hBB⟩ := HX.out _ hZ
  obtain ⟨r0, r1, r2, f0, f1, f2, hz⟩ := bm.f3
  clear hw0 bm0 hB0 hw0s
  rcases hcs with ⟨h0, rfl⟩ | ⟨i, hi, hiT, hcs⟩
  · have HNEG := Lib.hid h0
    clear h0
    go_enter Tryd.func11, Tryd.ntmps11
    go_wp2_with (first | (go_at_call 31; (try rw [← HW0.out]); ((with_reducible refine (HTR.out _).mono ?_); rintro e wt ⟨rfl, rfl⟩)))
    go_loop [4] (fun i => ∃ k : Nat, k ≤ T.size ∧ i = .int .i64 k ∧ ((us T).take k).any blank = false) (fun i => T.size - (intOf i).toNat)
    case atStart => exact ⟨0, Nat.zero_le _, rfl, rfl⟩
    case round =>
      obtain ⟨k, hk, rfl, hp⟩ := hrel
      have HPP := Lib.hid hp; clear hp
      by_cases hlt : k < T.size
      · cases hbk : blank T[k]
        · have HN := Lib.hid (any_more T k hlt HPP.out hbk)
          have t1 : (cls T[k] == 32) = false := by unfold blank at hbk; exact hbk
          have t2 : (cls T[k] != 32) = true := by rw [bne, t1]; rfl
          clear hbk
          go_wp2_with (go_at_call 32; refine (classR_c _ _).mono ?_; rintro e w' ⟨rfl, rfl⟩)
          go_round
          case rel => exact ⟨k + 1, by omega, by go_num, HN.out⟩
          case measure => simp [intOf]; omega
        · have hik := any_hit T k hlt HPP.out hbk
          have t1 : (cls T[k] == 32) = true := by unfold blank at hbk; exact hbk
          have t2 : (cls T[k] != 32) = false := by rw [bne, t1]; rfl
          clear hbk
          have := HNEG.out
          omega
      · have hik := fst_none (us T) (by rw [← take_all T k (by omega)]; exact HPP.out)
        have t5 : ((k : Int) == (T.size : Int)) = true := by (rw [beq_iff_eq]; omega)
        clear hik
        go_wp2
        refine bodyPost_ret (v := .tuple #[.agg #[.string ⟨#[]⟩, .int .i64 0, .slice none 0 0], .int .i64 70]) (by simp [results, Tryd.results11, go_sem, r0, r1, r2]) rfl ?_
        exact ⟨_, rfl, .inl ⟨⟨_, _, rfl⟩, rfl⟩, Fresh.nil _ _ _, ((hBB.setCell (Nat.le_refl _) _).setCell (Nat.le_refl _) _).setCell (Nat.le_refl _) _⟩
  · have HIF := Lib.hid hi
    clear hi
    have HSM := Lib.hid (fun wx => sameR_c (T.extract 0 i) ⟨#[83, 73, 80, 47, 50, 46, 48, 47, 85, 68, 80]⟩ (by rw [size_extract _ _ _ hiT]; omega) (by decide) wx)
    rw [show us ⟨#[83, 73, 80, 47, 50, 46, 48, 47, 85, 68, 80]⟩ = nProto from rfl] at HSM
    have HPC := Lib.hid (fun wx => partsR_c (T.extract i T.size) (by rw [← length_us, us_tail, List.length_drop, length_us]; omega) 59 wx)
    rcases hcs with ⟨h2, rfl⟩ | ⟨h2, x, r, hP, hR⟩
    · rw [h2] at HSM
      clear h2 HPC
      go_enter Tryd.func11, Tryd.ntmps11
      go_wp2_with (first | (go_at_call 31; (try rw [← HW0.out]); ((with_reducible refine (HTR.out _).mono ?_); rintro e wt ⟨rfl, rfl⟩)))
      go_loop [4] (fun i => ∃ k : Nat, k ≤ T.size ∧ i = .int .i64 k ∧ ((us T).take k).any blank = false) (fun i => T.size - (intOf i).toNat)
      case atStart => exact ⟨0, Nat.zero_le _, rfl, rfl⟩
      case round =>
        obtain ⟨k, hk, rfl, hp⟩ := hrel
        have HPP := Lib.hid hp; clear hp
        by_cases hlt : k < T.size
        · cases hbk : blank T[k]
          · have HN := Lib.hid (any_more T k hlt HPP.out hbk)
            have t1 : (cls T[k] == 32) = false := by unfold blank at hbk; exact hbk
            have t2 : (cls T[k] != 32) = true := by rw [bne, t1]; rfl
            clear hbk
            go_wp2_with (go_at_call 32; refine (classR_c _ _).mono ?_; rintro e w' ⟨rfl, rfl⟩)
            go_round
            case rel => exact ⟨k + 1, by omega, by go_num, HN.out⟩
            case measure => simp [intOf]; omega
          · have hik := any_hit T k hlt HPP.out hbk
            have t1 : (cls T[k] == 32) = true := by unfold blank at hbk; exact hbk
            have t2 : (cls T[k] != 32) = false := by rw [bne, t1]; rfl
            clear hbk
            have hki : k = i := by have := HIF.out; omega
            subst hki
            have t5 : ((k : Int) == (T.size : Int)) = false := by (rw [beq_eq_false_iff_ne]; omega)
            have i1 : (k : Int) ≤ (T.size : Int) := by omega
            clear hik
            go_wp2_with (first | (go_at_call 32; refine (classR_c _ _).mono ?_; rintro e w' ⟨rfl, rfl⟩) | (go_at_call 33; refine (HSM.out _).mono ?_; rintro e w2 ⟨rfl, hC2⟩; have hZ := hZ.trans (hC2.mono hZ.size); obtain ⟨bm, hBB⟩ := HX.out _ hZ; obtain ⟨r0, r1, r2, f0, f1, f2, hz⟩ := bm.f3))
            refine bodyPost_ret (v := .tuple #[.agg #[.string ⟨#[]⟩, .int .i64 0, .slice none 0 0], .int .i64 70]) (by simp [results, Tryd.results11, go_sem, r0, r1, r2]) rfl ?_
            exact ⟨_, rfl, .inl ⟨⟨_, _, rfl⟩, rfl⟩, Fresh.nil _ _ _, ((hBB.setCell (Nat.le_refl _) _).setCell (Nat.le_refl _) _).setCell (Nat.le_refl _) _⟩
        · have hik := fst_none (us T) (by rw [← take_all T k (by omega)]; exact HPP.out)
          have := HIF.out
          omega
    · rw [h2] at HSM
      have HBD := Lib.hid (fun p hp => Nat.le_trans (parts_bd 59 (us (T.extract i T.size)) p hp) (by rw [us_tail, List.length_drop, length_us]; omega : (us (T.extract i T.size)).length ≤ 4294967280))
      rw [hP] at HPC HBD
      clear h2 hP
      have hxl := HBD.out x (List.mem_cons_self ..)
      have htx := trim_le x
      have HTX := Lib.hid (fun wx => trimR_c (bs x) (by rw [size_bs]; omega) wx)
      rw [us_bs] at HTX
      have HWH := Lib.hid (fun wx => whereR_c (bs (trim x)) (by rw [size_bs]; omega) wx)
      rw [us_bs] at HWH
      have HFC := Lib.hid (fun wx v hv => fieldsR_c v r wx hv (fun p hp => HBD.out p (List.mem_cons_of_mem _ hp)))
      obtain ⟨W, hW⟩ : ∃ W, W = whereS (trim x) := ⟨_, rfl⟩
      obtain ⟨F, hF⟩ : ∃ F, F = fieldsS r := ⟨_, rfl⟩
      rw [← hW] at HWH hR
      rw [← hF] at HFC hR
      clear hW hF hxl htx HBD
      obtain ⟨⟨hl, p⟩, we⟩ := W
      obtain ⟨F, fe⟩ := F
      dsimp only at HWH HFC
      obtain ⟨H, hHd⟩ : ∃ H, H = bs hl := ⟨_, rfl⟩
      rw [← hHd] at HWH
      have HHd := Lib.hid hHd
      clear hHd
      by_cases w0' : we = 0
      · subst w0'
        by_cases f0' : fe = 0
        · subst f0'
          obtain rfl : R = (⟨hl, p, F⟩, 0) := by exact hR
          clear hR
          go_enter Tryd.func11, Tryd.ntmps11
          go_wp2_with (first | (go_at_call 31; (try rw [← HW0.out]); ((with_reducible refine (HTR.out _).mono ?_); rintro e wt ⟨rfl, rfl⟩)))
          go_loop [4] (fun i => ∃ k : Nat, k ≤ T.size ∧ i = .int .i64 k ∧ ((us T).take k).any blank = false) (fun i => T.size - (intOf i).toNat)
          case atStart => exact ⟨0, Nat.zero_le _, rfl, rfl⟩
          case round =>
            obtain ⟨k, hk, rfl, hp⟩ := hrel
            have HPP := Lib.hid hp; clear hp
            by_cases hlt : k < T.size
            · cases hbk : blank T[k]
              · have HN := Lib.hid (any_more T k hlt HPP.out hbk)
                have t1 : (cls T[k] == 32) = false := by unfold blank at hbk; exact hbk
                have t2 : (cls T[k] != 32) = true := by rw [bne, t1]; rfl
                clear hbk
                go_wp2_with (go_at_call 32; refine (classR_c _ _).mono ?_; rintro e w' ⟨rfl, rfl⟩)
                go_round
                case rel => exact ⟨k + 1, by omega, by go_num, HN.out⟩
                case measure => simp [intOf]; omega
              · have hik := any_hit T k hlt HPP.out hbk
                have t1 : (cls T[k] == 32) = true := by unfold blank at hbk; exact hbk
                have t2 : (cls T[k] != 32) = false := by rw [bne, t1]; rfl
                clear hbk
                have hki : k = i := by have := HIF.out; omega
                subst hki
                have t5 : ((k : Int) == (T.size : Int)) = false := by (rw [beq_eq_false_iff_ne]; omega)
                have i1 : (k : Int) ≤ (T.size : Int) := by omega
                clear hik
                go_wp2_with (first | (go_at_call 32; refine (classR_c _ _).mono ?_; rintro e w' ⟨rfl, rfl⟩) | (go_at_call 31; ((with_reducible refine (HTX.out _).mono ?_); rintro e wt ⟨rfl, rfl⟩)) | (go_at_call 33; refine (HSM.out _).mono ?_; rintro e w2 ⟨rfl, hC2⟩; have hZ := hZ.trans (hC2.mono hZ.size); obtain ⟨bm, hBB⟩ := HX.out _ hZ; obtain ⟨r0, r1, r2, f0, f1, f2, hz⟩ := bm.f3) | (go_at_call 34; refine (HPC.out _).mono ?_; rintro e w3 ⟨v, rfl, hv, hC3⟩; have hZ := hZ.trans (hC3.mono hZ.size); obtain ⟨bm, hBB⟩ := HX.out _ hZ; obtain ⟨r0, r1, r2, f0, f1, f2, hz⟩ := bm.f3; have HV := Lib.hid hv; obtain ⟨ao, cap, rfl, hm1, c1⟩ := hv.form; obtain ⟨b, off, rfl, hb1, hc1⟩ := c1 (by simp); have x0 := hc1 0 (by simp); rw [Nat.add_zero] at x0; have k1 : (0 : Int) < ((x :: r).length : Int) := (by simp); clear hc1 c1; unfold maxLen at hm1) | (go_at_call 35; refine (HWH.out _).mono ?_; rintro e w4 ⟨rfl, hC4⟩; have hZ := hZ.trans (hC4.mono hZ.size); obtain ⟨bm, hBB⟩ := HX.out _ hZ; obtain ⟨r0, r1, r2, f0, f1, f2, hz⟩ := bm.f3; have HV := Lib.hid (HV.out.below hC4 (Nat.le_refl _))) | (go_at_call 36; refine (HFC.out _ _ (by first | exact HV.out.tailB | exact HV.out.tailA (by first | assumption | omega))).mono ?_; rintro e w5 ⟨u, rfl, hu, hF0, hC5⟩; have hlt := HL0.out _ hZ; have hZ := hZ.trans (hC5.mono hZ.size); obtain ⟨bm, hBB⟩ := HX.out _ hZ; obtain ⟨r0, r1, r2, f0, f1, f2, hz⟩ := bm.f3; have HU := Lib.hid hu; obtain ⟨ao', cp, rfl, hml, hcl⟩ := hu.form; clear hu hcl))
                all_goals
                  refine bodyPost_ret (v := .tuple #[.agg #[.string H, .int .i64 p, .slice ao' F.length cp], .int .i64 0]) (by simp [results, Tryd.results11, go_sem, r0, r1, r2]) rfl ?_
                  exact ⟨_, by (rw [HHd.out]; rfl), ((HU.out.set hF0 hlt _).set hF0 hlt _).set hF0 hlt _, hF0.mono (Nat.le_of_lt hlt), ((hBB.setCell (Nat.le_refl _) _).setCell (Nat.le_refl _) _).setCell (Nat.le_refl _) _⟩
            · have hik := fst_none (us T) (by rw [← take_all T k (by omega)]; exact HPP.out)
              have := HIF.out
              omega
        · obtain rfl : R = (hop0, fe) := by
            rw [hR]; unfold endV; rw [if_neg (fun h => h rfl), if_pos f0']
          have t7 : (fe != 0) = true := by simpa using f0'
          clear hR f0'
          go_enter Tryd.func11, Tryd.ntmps11
          go_wp2_with (first | (go_at_call 31; (try rw [← HW0.out]); ((with_reducible refine (HTR.out _).mono ?_); rintro e wt ⟨rfl, rfl⟩)))
          go_loop [4] (fun i => ∃ k : Nat, k ≤ T.size ∧ i = .int .i64 k ∧ ((us T).take k).any blank = false) (fun i => T.size - (intOf i).toNat)
          case atStart => exact ⟨0, Nat.zero_le _, rfl, rfl⟩
          case round =>
            obtain ⟨k, hk, rfl, hp⟩ := hrel
            have HPP := Lib.hid hp; clear hp
            by_cases hlt : k < T.size
            · cases hbk : blank T[k]
              · have HN := Lib.hid (any_more T k hlt HPP.out hbk)
                have t1 : (cls T[k] == 32) = false := by unfold blank at hbk; exact hbk
                have t2 : (cls T[k] != 32) = true := by rw [bne, t1]; rfl
                clear hbk
                go_wp2_with (go_at_call 32; refine (classR_c _ _).mono ?_; rintro e w' ⟨rfl, rfl⟩)
                go_round
                case rel => exact ⟨k + 1, by omega, by go_num, HN.out⟩
                case measure => simp [intOf]; omega
              · have hik := any_hit T k hlt HPP.out hbk
                have t1 : (cls T[k] == 32) = true := by unfold blank at hbk; exact hbk
                have t2 : (cls T[k] != 32) = false := by rw [bne, t1]; rfl
                clear hbk
                have hki : k = i := by have := HIF.out; omega
                subst hki
                have t5 : ((k : Int) == (T.size : Int)) = false := by (rw [beq_eq_false_iff_ne]; omega)
                have i1 : (k : Int) ≤ (T.size : Int) := by omega
                clear hik
                go_wp2_with (first | (go_at_call 32; refine (classR_c _ _).mono ?_; rintro e w' ⟨rfl, rfl⟩) | (go_at_call 31; ((with_reducible refine (HTX.out _).mono ?_); rintro e wt ⟨rfl, rfl⟩)) | (go_at_call 33; refine (HSM.out _).mono ?_; rintro e w2 ⟨rfl, hC2⟩; have hZ := hZ.trans (hC2.mono hZ.size); obtain ⟨bm, hBB⟩ := HX.out _ hZ; obtain ⟨r0, r1, r2, f0, f1, f2, hz⟩ := bm.f3) | (go_at_call 34; refine (HPC.out _).mono ?_; rintro e w3 ⟨v, rfl, hv, hC3⟩; have hZ := hZ.trans (hC3.mono hZ.size); obtain ⟨bm, hBB⟩ := HX.out _ hZ; obtain ⟨r0, r1, r2, f0, f1, f2, hz⟩ := bm.f3; have HV := Lib.hid hv; obtain ⟨ao, cap, rfl, hm1, c1⟩ := hv.form; obtain ⟨b, off, rfl, hb1, hc1⟩ := c1 (by simp); have x0 := hc1 0 (by simp); rw [Nat.add_zero] at x0; have k1 : (0 : Int) < ((x :: r).length : Int) := (by simp); clear hc1 c1; unfold maxLen at hm1) | (go_at_call 35; refine (HWH.out _).mono ?_; rintro e w4 ⟨rfl, hC4⟩; have hZ := hZ.trans (hC4.mono hZ.size); obtain ⟨bm, hBB⟩ := HX.out _ hZ; obtain ⟨r0, r1, r2, f0, f1, f2, hz⟩ := bm.f3; have HV := Lib.hid (HV.out.below hC4 (Nat.le_refl _))) | (go_at_call 36; refine (HFC.out _ _ (by first | exact HV.out.tailB | exact HV.out.tailA (by first | assumption | omega))).mono ?_; rintro e w5 ⟨u, rfl, hu, hF0, hC5⟩; have hlt := HL0.out _ hZ; have hZ := hZ.trans (hC5.mono hZ.size); obtain ⟨bm, hBB⟩ := HX.out _ hZ; obtain ⟨r0, r1, r2, f0, f1, f2, hz⟩ := bm.f3; have HU := Lib.hid hu; obtain ⟨ao', cp, rfl, hml, hcl⟩ := hu.form; clear hu hcl))
                all_goals
                  refine bodyPost_ret (v := .tuple #[.agg #[.string ⟨#[]⟩, .int .i64 0, .slice none 0 0], .int .i64 fe]) (by simp [results, Tryd.results11, go_sem, r0, r1, r2]) rfl ?_
                  exact ⟨_, rfl, .inl ⟨⟨_, _, rfl⟩, rfl⟩, Fresh.nil _ _ _, ((hBB.setCell (Nat.le_refl _) _).setCell (Nat.le_refl _) _).setCell (Nat.le_refl _) _⟩
            · have hik := fst_none (us T) (by rw [← take_all T k (by omega)]; exact HPP.out)
              have := HIF.out
              omega
      · obtain rfl : R = (hop0, we) := by
          rw [hR]; unfold endV; rw [if_pos w0']
        have t7 : (we != 0) = true := by simpa using w0'
        clear hR w0'
        go_enter Tryd.func11, Tryd.ntmps11
        go_wp2_with (first | (go_at_call 31; (try rw [← HW0.out]); ((with_reducible refine (HTR.out _).mono ?_); rintro e wt ⟨rfl, rfl⟩)))
        go_loop [4] (fun i => ∃ k : Nat, k ≤ T.size ∧ i = .int .i64 k ∧ ((us T).take k).any blank = false) (fun i => T.size - (intOf i).toNat)
        case atStart => exact ⟨0, Nat.zero_le _, rfl, rfl⟩
        case round =>
          obtain ⟨k, hk, rfl, hp⟩ := hrel
          have HPP := Lib.hid hp; clear hp
          by_cases hlt : k < T.size
          · cases hbk : blank T[k]
            · have HN := Lib.hid (any_more T k hlt HPP.out hbk)
              have t1 : (cls T[k] == 32) = false := by unfold blank at hbk; exact hbk
              have t2 : (cls T[k] != 32) = true := by rw [bne, t1]; rfl
              clear hbk
              go_wp2_with (go_at_call 32; refine (classR_c _ _).mono ?_; rintro e w' ⟨rfl, rfl⟩)
              go_round
              case rel => exact ⟨k + 1, by omega, by go_num, HN.out⟩
              case measure => simp [intOf]; omega
            · have hik := any_hit T k hlt HPP.out hbk
              have t1 : (cls T[k] == 32) = true := by unfold blank at hbk; exact hbk
              have t2 : (cls T[k] != 32) = false := by rw [bne, t1]; rfl
              clear hbk
              have hki : k = i := by have := HIF.out; omega
              subst hki
              have t5 : ((k : Int) == (T.size : Int)) = false := by (rw [beq_eq_false_iff_ne]; omega)
              have i1 : (k : Int) ≤ (T.size : Int) := by omega
              clear hik
              go_wp2_with (first | (go_at_call 32; refine (classR_c _ _).mono ?_; rintro e w' ⟨rfl, rfl⟩) | (go_at_call 31; ((with_reducible refine (HTX.out _).mono ?_); rintro e wt ⟨rfl, rfl⟩)) | (go_at_call 33; refine (HSM.out _).mono ?_; rintro e w2 ⟨rfl, hC2⟩; have hZ := hZ.trans (hC2.mono hZ.size); obtain ⟨bm, hBB⟩ := HX.out _ hZ; obtain ⟨r0, r1, r2, f0, f1, f2, hz⟩ := bm.f3) | (go_at_call 34; refine (HPC.out _).mono ?_; rintro e w3 ⟨v, rfl, hv, hC3⟩; have hZ := hZ.trans (hC3.mono hZ.size); obtain ⟨bm, hBB⟩ := HX.out _ hZ; obtain ⟨r0, r1, r2, f0, f1, f2, hz⟩ := bm.f3; have HV := Lib.hid hv; obtain ⟨ao, cap, rfl, hm1, c1⟩ := hv.form; obtain ⟨b, off, rfl, hb1, hc1⟩ := c1 (by simp); have x0 := hc1 0 (by simp); rw [Nat.add_zero] at x0; have k1 : (0 : Int) < ((x :: r).length : Int) := (by simp); clear hc1 c1; unfold maxLen at hm1) | (go_at_call 35; refine (HWH.out _).mono ?_; rintro e w4 ⟨rfl, hC4⟩; have hZ := hZ.trans (hC4.mono hZ.size); obtain ⟨bm, hBB⟩ := HX.out _ hZ; obtain ⟨r0, r1, r2, f0, f1, f2, hz⟩ := bm.f3; have HV := Lib.hid (HV.out.below hC4 (Nat.le_refl _))))
              refine bodyPost_ret (v := .tuple #[.agg #[.string ⟨#[]⟩, .int .i64 0, .slice none 0 0], .int .i64 we]) (by simp [results, Tryd.results11, go_sem, r0, r1, r2]) rfl ?_
              exact ⟨_, rfl, .inl ⟨⟨_, _, rfl⟩, rfl⟩, Fresh.nil _ _ _, ((hBB.setCell (Nat.le_refl _) _).setCell (Nat.le_refl _) _).setCell (Nat.le_refl _) _⟩
          · have hik := fst_none (us T) (by rw [← take_all T k (by omega)]; exact HPP.out)
            have := HIF.out
            omega

end Go.Proofs.YtjohecbmeoalaaaDoor
