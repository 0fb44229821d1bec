/-
  rosterref05.Check, Print, Tag.
-/
import Derived.Test.YtjpmfcipjaeemaaGreatDoorUrw
import Derived.Test.YtjpmfcipjaeemaaGreatDoorAck
import Derived.Test.YtjpmfcipjaeemaaGreatDoorSme
namespace Go.Proofs.YtjpmfcipjaeemaaGreatDoor
set_option linter.unusedSimpArgs false
set_option linter.unusedVariables false
open Go.RowKit Go.Sort


set_option maxRecDepth 100000 in
set_option maxHeartbeats 6400000 in
theorem checkAR_c (D S U H : ByteArray) (n : Int) (u1 u2 u3 : Value) (F G P : List Prm) (hD : D.size ≤ 4294967280) (hS : S.size ≤ 4294967280) (hH : H.size ≤ 4294967280) (w : World) (h1 : RPrms w u1 F) (h2 : RPrms w u2 G) (h3 : RPrms w u3 P) (hb1 : ∀ p ∈ F, p.name.length ≤ 4294967280 ∧ p.value.length ≤ 4294967280) (hb2 : ∀ p ∈ G, p.name.length ≤ 4294967280 ∧ p.value.length ≤ 4294967280) (hb3 : ∀ p ∈ P, p.name.length ≤ 4294967280 ∧ p.value.length ≤ 4294967280) :
    Calls Tryz.prog 8 #[.agg #[.string D, .string S, .string U, .string H, .int .i64 n, u1, u2, u3]] w fun e w' => e = .returned (.int .i64 (checkA (⟨us D, ⟨us S, us U, us H, n, F, G⟩, P⟩ : Adr))) ∧ Below w.heap.size w w' := by
  
  have HU1 := Lib.hid h1
  have HU2 := Lib.hid h2
  have HU3 := Lib.hid h3
  obtain ⟨ao, ac, rfl, _, _⟩ := h1.form
  obtain ⟨bo, bc, rfl, _, _⟩ := h2.form
  obtain ⟨co, cc, rfl, _, _⟩ := h3.form
  have HQ := Lib.hid (fun wx => quoteR_c D (by omega) wx)
  have HU := Lib.hid (fun wx h1 h2 => checkUR_c S U H n (.slice ao F.length ac) (.slice bo G.length bc) F G hS hH wx h1 h2 hb1 hb2)
  have HT := Lib.hid (fun wx hv => textR_c (.slice co P.length cc) P wx hv hb3)
  have hcs := checkA_cases D S U H n F G P
  obtain ⟨q, hq⟩ : ∃ q, q = quote (us D) := ⟨_, rfl⟩
  obtain ⟨cu, hcu⟩ : ∃ q, q = checkU ⟨us S, us U, us H, n, F, G⟩ := ⟨_, rfl⟩
  obtain ⟨t, ht⟩ : ∃ q, q = textS P := ⟨_, rfl⟩
  obtain ⟨C, hC⟩ : ∃ C, C = checkA (⟨us D, ⟨us S, us U, us H, n, F, G⟩, P⟩ : Adr) := ⟨_, rfl⟩
  rw [← hq] at HQ hcs
  rw [← hcu] at HU hcs
  rw [← ht] at HT hcs
  rw [← hC] at hcs ⊢
  clear hq hcu ht hC h1 h2 h3 hb1 hb2 hb3
  obtain ⟨qs, qe⟩ := q
  obtain ⟨ts, te⟩ := t
  dsimp only at hcs HQ HT
  have hB0 : Below w.heap.size w (w.alloc (.cells #[.string D, .string S, .string U, .string H, .int .i64 n, .slice ao F.length ac, .slice bo G.length bc, .slice co P.length cc] 26)) := (Below.refl _ _).alloc (Nat.le_refl _) _
  have bm0 := Blk.new w 26 #[.string D, .string S, .string U, .string H, .int .i64 n, .slice ao F.length ac, .slice bo G.length bc, .slice co P.length cc]
  obtain ⟨w0, hw0⟩ : ∃ w0, w0 = w.alloc (.cells #[.string D, .string S, .string U, .string H, .int .i64 n, .slice ao F.length ac, .slice bo G.length bc, .slice co P.length cc] 26) := ⟨_, rfl⟩
  rw [← hw0] at hB0 bm0
  have HX := Lib.hid (fun (wx : World) (h : Below w0.heap.size w0 wx) => (show Blk wx w.heap.size 26 #[.string D, .string S, .string U, .string H, .int .i64 n, .slice ao F.length ac, .slice bo G.length bc, .slice co P.length cc] ∧ Below w.heap.size w wx ∧ True ∧ RPrms wx (.slice ao F.length ac) F ∧ RPrms wx (.slice bo G.length bc) G ∧ RPrms wx (.slice co P.length cc) P from by
    have hx := hB0.trans (h.mono hB0.size)
    exact ⟨bm0.call h, hx, trivial, HU1.out.below hx (Nat.le_refl _), HU2.out.below hx (Nat.le_refl _), HU3.out.below hx (Nat.le_refl _)⟩))
  have HW0 := Lib.hid hw0
  have hZ : Below w0.heap.size w0 w0 := Below.refl _ _
  obtain ⟨bm, hBB, hMM, hU1, hU2, hU3⟩ := HX.out _ hZ
  obtain ⟨p0, p1, p2, p3, p4, p5, p6, p7⟩ := blk_f8 bm
  clear hw0 bm0 hB0
  rcases hcs with ⟨c1, rfl⟩ | ⟨c1, c2, rfl⟩ | ⟨c1, c2, c3, rfl⟩ | ⟨c1, c2, rfl, rfl⟩
  · by_cases hd64 : 64 < D.size
    all_goals
      go_enter Tryz.func8, Tryz.ntmps8
      go_wp2_with (first | (go_at_call 17; (try rw [← HW0.out]); refine (HQ.out _).mono ?_; rintro e w1 ⟨rfl, hC1⟩; have hZ := hZ.trans (hC1.mono hZ.size); obtain ⟨bm, hBB, hMM, hU1, hU2, hU3⟩ := HX.out _ hZ; obtain ⟨p0, p1, p2, p3, p4, p5, p6, p7⟩ := blk_f8 bm) | (go_at_call 19; refine (HU.out _ hU1 hU2).mono ?_; rintro e w2 ⟨rfl, hC2⟩; have hZ := hZ.trans (hC2.mono hZ.size); obtain ⟨bm, hBB, hMM, hU1, hU2, hU3⟩ := HX.out _ hZ; obtain ⟨p0, p1, p2, p3, p4, p5, p6, p7⟩ := blk_f8 bm) | (go_at_call 16; refine (HT.out _ hU3).mono ?_; rintro e w3 ⟨rfl, hC3⟩; have hZ := hZ.trans (hC3.mono hZ.size); obtain ⟨bm, hBB, hMM, hU1, hU2, hU3⟩ := HX.out _ hZ; obtain ⟨p0, p1, p2, p3, p4, p5, p6, p7⟩ := blk_f8 bm))
      go_ret
      exact ⟨by first | rfl | exact ret_int (by assumption), hBB⟩
  all_goals
    go_enter Tryz.func8, Tryz.ntmps8
    go_wp2_with (first | (go_at_call 17; (try rw [← HW0.out]); refine (HQ.out _).mono ?_; rintro e w1 ⟨rfl, hC1⟩; have hZ := hZ.trans (hC1.mono hZ.size); obtain ⟨bm, hBB, hMM, hU1, hU2, hU3⟩ := HX.out _ hZ; obtain ⟨p0, p1, p2, p3, p4, p5, p6, p7⟩ := blk_f8 bm) | (go_at_call 19; refine (HU.out _ hU1 hU2).mono ?_; rintro e w2 ⟨rfl, hC2⟩; have hZ := hZ.trans (hC2.mono hZ.size); obtain ⟨bm, hBB, hMM, hU1, hU2, hU3⟩ := HX.out _ hZ; obtain ⟨p0, p1, p2, p3, p4, p5, p6, p7⟩ := blk_f8 bm) | (go_at_call 16; refine (HT.out _ hU3).mono ?_; rintro e w3 ⟨rfl, hC3⟩; have hZ := hZ.trans (hC3.mono hZ.size); obtain ⟨bm, hBB, hMM, hU1, hU2, hU3⟩ := HX.out _ hZ; obtain ⟨p0, p1, p2, p3, p4, p5, p6, p7⟩ := blk_f8 bm))
    go_ret
    exact ⟨by first | rfl | exact ret_int (by assumption), hBB⟩

set_option maxRecDepth 100000 in
set_option maxHeartbeats 6400000 in
theorem printAR_c (D S U H : ByteArray) (n : Int) (u1 u2 u3 : Value) (F G P : List Prm) (hD : D.size ≤ 4294967280) (hS : S.size ≤ 4294967280) (hH : H.size ≤ 4294967280) (hn0 : -9223372036854775808 ≤ n) (hn1 : n ≤ 9223372036854775807) (w : World) (h1 : RPrms w u1 F) (h2 : RPrms w u2 G) (h3 : RPrms w u3 P) (hb1 : ∀ p ∈ F, p.name.length ≤ 4294967280 ∧ p.value.length ≤ 4294967280) (hb2 : ∀ p ∈ G, p.name.length ≤ 4294967280 ∧ p.value.length ≤ 4294967280) (hb3 : ∀ p ∈ P, p.name.length ≤ 4294967280 ∧ p.value.length ≤ 4294967280) :
    Calls Tryz.prog 6 #[.agg #[.string D, .string S, .string U, .string H, .int .i64 n, u1, u2, u3]] w fun e w' => e = .returned (.tuple #[.string (bs (printA (⟨us D, ⟨us S, us U, us H, n, F, G⟩, P⟩ : Adr)).1), .int .i64 (printA (⟨us D, ⟨us S, us U, us H, n, F, G⟩, P⟩ : Adr)).2]) ∧ Below w.heap.size w w' := by
  
  have HU1 := Lib.hid h1
  have HU2 := Lib.hid h2
  have HU3 := Lib.hid h3
  obtain ⟨ao, ac, rfl, _, _⟩ := h1.form
  obtain ⟨bo, bc, rfl, _, _⟩ := h2.form
  obtain ⟨co, cc, rfl, _, _⟩ := h3.form
  have HQ := Lib.hid (fun wx => quoteR_c D (by omega) wx)
  have HC := Lib.hid (fun wx h1 h2 h3 => checkAR_c D S U H n (.slice ao F.length ac) (.slice bo G.length bc) (.slice co P.length cc) F G P hD hS hH wx h1 h2 h3 hb1 hb2 hb3)
  have HU := Lib.hid (fun wx h1 h2 => printUR_c S U H n (.slice ao F.length ac) (.slice bo G.length bc) F G hS hH hn0 hn1 wx h1 h2 hb1 hb2)
  have HT := Lib.hid (fun wx hv => textR_c (.slice co P.length cc) P wx hv hb3)
  have hpr : printA (⟨us D, ⟨us S, us U, us H, n, F, G⟩, P⟩ : Adr) = if checkA (⟨us D, ⟨us S, us U, us H, n, F, G⟩, P⟩ : Adr) = 0 then (textA (⟨us D, ⟨us S, us U, us H, n, F, G⟩, P⟩ : Adr), 0) else ([], checkA (⟨us D, ⟨us S, us U, us H, n, F, G⟩, P⟩ : Adr)) := rfl
  have hpt := checkA_parts (⟨us D, ⟨us S, us U, us H, n, F, G⟩, P⟩ : Adr)
  have htx : textA (⟨us D, ⟨us S, us U, us H, n, F, G⟩, P⟩ : Adr) = nameT (us D) ++ 60 :: (textU ⟨us S, us U, us H, n, F, G⟩ ++ 62 :: (textS P).1) := rfl
  have hul := textU_le ⟨us S, us U, us H, n, F, G⟩
  have hpu : checkU ⟨us S, us U, us H, n, F, G⟩ = 0 → printU ⟨us S, us U, us H, n, F, G⟩ = (textU ⟨us S, us U, us H, n, F, G⟩, 0) := fun h => if_pos h
  have htl := textS_le P
  dsimp only at hpt
  obtain ⟨PA, hPA⟩ : ∃ C, C = printA (⟨us D, ⟨us S, us U, us H, n, F, G⟩, P⟩ : Adr) := ⟨_, rfl⟩
  rw [← hPA] at hpr ⊢
  obtain ⟨C, hC⟩ : ∃ C, C = checkA (⟨us D, ⟨us S, us U, us H, n, F, G⟩, P⟩ : Adr) := ⟨_, rfl⟩
  rw [← hC] at HC hpr hpt
  obtain ⟨TA, hTA⟩ : ∃ C, C = textA (⟨us D, ⟨us S, us U, us H, n, F, G⟩, P⟩ : Adr) := ⟨_, rfl⟩
  rw [← hTA] at hpr htx
  clear hPA hC hTA h1 h2 h3 hb1 hb2 hb3
  have hB0 : Below w.heap.size w (w.alloc (.cells #[.string D, .string S, .string U, .string H, .int .i64 n, .slice ao F.length ac, .slice bo G.length bc, .slice co P.length cc] 26)) := (Below.refl _ _).alloc (Nat.le_refl _) _
  have bm0 := Blk.new w 26 #[.string D, .string S, .string U, .string H, .int .i64 n, .slice ao F.length ac, .slice bo G.length bc, .slice co P.length cc]
  obtain ⟨w0, hw0⟩ : ∃ w0, w0 = w.alloc (.cells #[.string D, .string S, .string U, .string H, .int .i64 n, .slice ao F.length ac, .slice bo G.length bc, .slice co P.length cc] 26) := ⟨_, rfl⟩
  rw [← hw0] at hB0 bm0
  have HX := Lib.hid (fun (wx : World) (h : Below w0.heap.size w0 wx) => (show Blk wx w.heap.size 26 #[.string D, .string S, .string U, .string H, .int .i64 n, .slice ao F.length ac, .slice bo G.length bc, .slice co P.length cc] ∧ Below w.heap.size w wx ∧ True ∧ RPrms wx (.slice ao F.length ac) F ∧ RPrms wx (.slice bo G.length bc) G ∧ RPrms wx (.slice co P.length cc) P from by
    have hx := hB0.trans (h.mono hB0.size)
    exact ⟨bm0.call h, hx, trivial, HU1.out.below hx (Nat.le_refl _), HU2.out.below hx (Nat.le_refl _), HU3.out.below hx (Nat.le_refl _)⟩))
  have HW0 := Lib.hid hw0
  have hZ : Below w0.heap.size w0 w0 := Below.refl _ _
  obtain ⟨bm, hBB, hMM, hU1, hU2, hU3⟩ := HX.out _ hZ
  obtain ⟨p0, p1, p2, p3, p4, p5, p6, p7⟩ := blk_f8 bm
  clear hw0 bm0 hB0
  by_cases hc : C = 0
  case neg =>
    rw [if_neg hc] at hpr
    have t0 : (C != 0) = true := by simpa using hc
    have HPR := Lib.hid hpr
    clear hpr hpt htx hul hpu htl hc
    go_enter Tryz.func6, Tryz.ntmps6
    go_wp2_with (first | (go_at_call 8; (try rw [← HW0.out]); refine (HC.out _ hU1 hU2 hU3).mono ?_; rintro e w1 ⟨rfl, hC1⟩; have hZ := hZ.trans (hC1.mono hZ.size); obtain ⟨bm, hBB, hMM, hU1, hU2, hU3⟩ := HX.out _ hZ; obtain ⟨p0, p1, p2, p3, p4, p5, p6, p7⟩ := blk_f8 bm) | (go_at_call 15; refine (HU.out _ hU1 hU2).mono ?_; rintro e w2 ⟨rfl, hC2⟩; have hZ := hZ.trans (hC2.mono hZ.size); obtain ⟨bm, hBB, hMM, hU1, hU2, hU3⟩ := HX.out _ hZ; obtain ⟨p0, p1, p2, p3, p4, p5, p6, p7⟩ := blk_f8 bm) | (go_at_call 16; refine (HT.out _ hU3).mono ?_; rintro e w3 ⟨rfl, hC3⟩; have hZ := hZ.trans (hC3.mono hZ.size); obtain ⟨bm, hBB, hMM, hU1, hU2, hU3⟩ := HX.out _ hZ; obtain ⟨p0, p1, p2, p3, p4, p5, p6, p7⟩ := blk_f8 bm) | (go_at_call 17; refine (HQ.out _).mono ?_; rintro e w4 ⟨rfl, hC4⟩; have hZ := hZ.trans (hC4.mono hZ.size); obtain ⟨bm, hBB, hMM, hU1, hU2, hU3⟩ := HX.out _ hZ; obtain ⟨p0, p1, p2, p3, p4, p5, p6, p7⟩ := blk_f8 bm))
    go_ret2
    exact ⟨ret_si (p := PA) (by rw [HPR.out]; rfl), hBB⟩
  obtain ⟨q0, d64, cu0, t0⟩ := hpt hc
  subst hc
  rw [if_pos rfl] at hpr
  have hul := hul cu0
  have hpu := hpu cu0
  have hqn := quote_le (us D)
  have hnm : nameT (us D) = if us D = [] then [] else (quote (us D)).1 ++ [32] := rfl
  rw [hpu] at HU
  rw [hnm] at htx
  have hdn : us D = [] ↔ D.size = 0 := by rw [← length_us, List.length_eq_zero_iff]
  rw [length_us] at d64 hqn
  obtain ⟨TU, hTU⟩ : ∃ x, x = bs (textU ⟨us S, us U, us H, n, F, G⟩) := ⟨_, rfl⟩
  have uTU : textU ⟨us S, us U, us H, n, F, G⟩ = us TU := by rw [hTU, us_bs]
  obtain ⟨TP, hTP⟩ : ∃ x, x = bs (textS P).1 := ⟨_, rfl⟩
  have uTP : (textS P).1 = us TP := by rw [hTP, us_bs]
  obtain ⟨QD, hQD⟩ : ∃ x, x = bs (quote (us D)).1 := ⟨_, rfl⟩
  have uQD : (quote (us D)).1 = us QD := by rw [hQD, us_bs]
  rw [← hTU] at HU
  rw [← hTP, t0] at HT
  rw [← hQD, q0] at HQ
  rw [uTU, length_us] at hul
  rw [uTP, length_us] at htl
  rw [uQD, length_us] at hqn
  rw [uTU, uTP, uQD] at htx
  have HPR := Lib.hid hpr
  clear hpr hpu hTU uTU hTP uTP hQD uQD hnm cu0 q0 t0
  by_cases hd : D.size = 0
  · rw [if_pos (hdn.2 hd), List.nil_append] at htx
    have HTX := Lib.hid htx
    obtain rfl := eq_empty hd
    clear htx hd hdn
    go_enter Tryz.func6, Tryz.ntmps6
    go_wp2_with (first | (go_at_call 8; (try rw [← HW0.out]); refine (HC.out _ hU1 hU2 hU3).mono ?_; rintro e w1 ⟨rfl, hC1⟩; have hZ := hZ.trans (hC1.mono hZ.size); obtain ⟨bm, hBB, hMM, hU1, hU2, hU3⟩ := HX.out _ hZ; obtain ⟨p0, p1, p2, p3, p4, p5, p6, p7⟩ := blk_f8 bm) | (go_at_call 15; refine (HU.out _ hU1 hU2).mono ?_; rintro e w2 ⟨rfl, hC2⟩; have hZ := hZ.trans (hC2.mono hZ.size); obtain ⟨bm, hBB, hMM, hU1, hU2, hU3⟩ := HX.out _ hZ; obtain ⟨p0, p1, p2, p3, p4, p5, p6, p7⟩ := blk_f8 bm) | (go_at_call 16; refine (HT.out _ hU3).mono ?_; rintro e w3 ⟨rfl, hC3⟩; have hZ := hZ.trans (hC3.mono hZ.size); obtain ⟨bm, hBB, hMM, hU1, hU2, hU3⟩ := HX.out _ hZ; obtain ⟨p0, p1, p2, p3, p4, p5, p6, p7⟩ := blk_f8 bm) | (go_at_call 17; refine (HQ.out _).mono ?_; rintro e w4 ⟨rfl, hC4⟩; have hZ := hZ.trans (hC4.mono hZ.size); obtain ⟨bm, hBB, hMM, hU1, hU2, hU3⟩ := HX.out _ hZ; obtain ⟨p0, p1, p2, p3, p4, p5, p6, p7⟩ := blk_f8 bm))
    go_ret2
    exact ⟨ret_si (p := PA) (by rw [HPR.out, HTX.out]; simp [us]), hBB⟩
  · rw [if_neg (fun h => hd (hdn.1 h))] at htx
    have HTX := Lib.hid htx
    have pE := ne_empty hd
    have pF := isEmpty_f hd
    clear htx hd hdn
    go_enter Tryz.func6, Tryz.ntmps6
    go_wp2_with (first | (go_at_call 8; (try rw [← HW0.out]); refine (HC.out _ hU1 hU2 hU3).mono ?_; rintro e w1 ⟨rfl, hC1⟩; have hZ := hZ.trans (hC1.mono hZ.size); obtain ⟨bm, hBB, hMM, hU1, hU2, hU3⟩ := HX.out _ hZ; obtain ⟨p0, p1, p2, p3, p4, p5, p6, p7⟩ := blk_f8 bm) | (go_at_call 15; refine (HU.out _ hU1 hU2).mono ?_; rintro e w2 ⟨rfl, hC2⟩; have hZ := hZ.trans (hC2.mono hZ.size); obtain ⟨bm, hBB, hMM, hU1, hU2, hU3⟩ := HX.out _ hZ; obtain ⟨p0, p1, p2, p3, p4, p5, p6, p7⟩ := blk_f8 bm) | (go_at_call 16; refine (HT.out _ hU3).mono ?_; rintro e w3 ⟨rfl, hC3⟩; have hZ := hZ.trans (hC3.mono hZ.size); obtain ⟨bm, hBB, hMM, hU1, hU2, hU3⟩ := HX.out _ hZ; obtain ⟨p0, p1, p2, p3, p4, p5, p6, p7⟩ := blk_f8 bm) | (go_at_call 17; refine (HQ.out _).mono ?_; rintro e w4 ⟨rfl, hC4⟩; have hZ := hZ.trans (hC4.mono hZ.size); obtain ⟨bm, hBB, hMM, hU1, hU2, hU3⟩ := HX.out _ hZ; obtain ⟨p0, p1, p2, p3, p4, p5, p6, p7⟩ := blk_f8 bm))
    go_ret2
    exact ⟨ret_si (p := PA) (by rw [HPR.out, HTX.out]; simp [us]), hBB⟩

set_option maxHeartbeats 3200000 in
theorem tagAR_c (D S U H : ByteArray) (n : Int) (u1 u2 u3 : Value) (F G P : List Prm) (w : World) (h3 : RPrms w u3 P) (hb : ∀ p ∈ P, p.name.length ≤ 4294967280) (f1 : ∃ ao c, u1 = .slice ao F.length c) (f2 : ∃ ao c, u2 = .slice ao G.length c) :
    Calls Tryz.prog 10 #[.agg #[.string D, .string S, .string U, .string H, .int .i64 n, u1, u2, u3]] w fun e w' => e = .returned (.string (bs (value P nTag).1)) ∧ Below w.heap.size w w' := by
  have HU := Lib.hid h3
  obtain ⟨ao, ac, rfl⟩ := f1
  obtain ⟨bo, bc, rfl⟩ := f2
  obtain ⟨co, cc, rfl, _, _⟩ := h3.form
  clear h3
  have HV := Lib.hid (fun wx hv => valueR_c (.slice co P.length cc) P ⟨#[116, 97, 103]⟩ (by decide) wx hv (fun p hp => by have := hb p hp; omega))
  rw [show us ⟨#[116, 97, 103]⟩ = nTag from rfl] at HV
  obtain ⟨q, hq⟩ : ∃ q, q = value P nTag := ⟨_, rfl⟩
  rw [← hq] at HV ⊢
  clear hq hb
  have hZ := (Below.refl w.heap.size w).alloc (Nat.le_refl _) (.cells #[.string D, .string S, .string U, .string H, .int .i64 n, .slice ao F.length ac, .slice bo G.length bc, .slice co P.length cc] 26)
  go_enter Tryz.func10, Tryz.ntmps10
  go_wp2_with (go_at_call 21; refine (HV.out _ (HU.out.below hZ (Nat.le_refl _))).mono ?_; rintro e w1 ⟨rfl, hC1⟩; have hZ := hZ.trans (hC1.mono hZ.size))
  go_ret
  exact ⟨rfl, hZ⟩


end Go.Proofs.YtjpmfcipjaeemaaGreatDoor
