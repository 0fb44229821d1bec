/-
  addr.Check, addr.Print.
-/
import Derived.Test.YtjpmfcipjaeemaaGreatDoorAds
import Derived.Test.YtjpmfcipjaeemaaGreatDoorUpr
import Derived.Test.YtjpmfcipjaeemaaGreatDoorTxt
namespace Go.Proofs.YtjpmfcipjaeemaaGreatDoor
set_option linter.unusedSimpArgs false
set_option linter.unusedVariables false
open Go.RowKit

theorem blk_f8 {w : World} {g : Nat} {t : TypeId} {a b c d e f i j : Value} (h : Blk w g t #[a, b, c, d, e, f, i, j]) :
    w.cell? ⟨g, 0, none⟩ = some a ∧ w.cell? ⟨g, 1, none⟩ = some b ∧ w.cell? ⟨g, 2, none⟩ = some c ∧ w.cell? ⟨g, 3, none⟩ = some d ∧ w.cell? ⟨g, 4, none⟩ = some e ∧ w.cell? ⟨g, 5, none⟩ = some f ∧ w.cell? ⟨g, 6, none⟩ = some i ∧ w.cell? ⟨g, 7, none⟩ = some j :=
  ⟨boxedCell h 0, boxedCell h 1, boxedCell h 2, boxedCell h 3, boxedCell h 4, boxedCell h 5, boxedCell h 6, boxedCell h 7⟩
theorem checkA_cases (D S U H : ByteArray) (n : Int) (F G P : List Prm) :
    (((quote (us D)).2 != 0) = true ∧ checkA (⟨us D, ⟨us S, us U, us H, n, F, G⟩, P⟩ : Adr) = 50) ∨ (((quote (us D)).2 != 0) = false ∧ 64 < D.size ∧ checkA (⟨us D, ⟨us S, us U, us H, n, F, G⟩, P⟩ : Adr) = 50) ∨
    (((quote (us D)).2 != 0) = false ∧ ¬ 64 < D.size ∧ (checkU ⟨us S, us U, us H, n, F, G⟩ != 0) = true ∧ checkA (⟨us D, ⟨us S, us U, us H, n, F, G⟩, P⟩ : Adr) = checkU ⟨us S, us U, us H, n, F, G⟩) ∨
    (((quote (us D)).2 != 0) = false ∧ ¬ 64 < D.size ∧ checkU ⟨us S, us U, us H, n, F, G⟩ = 0 ∧ checkA (⟨us D, ⟨us S, us U, us H, n, F, G⟩, P⟩ : Adr) = (textS P).2) := by
  unfold checkA
  dsimp only
  rw [length_us]
  by_cases h1 : (quote (us D)).2 = 0
  · have e1 : ((quote (us D)).2 != 0) = false := by simpa using h1
    refine .inr ?_
    by_cases h2 : 64 < D.size
    · exact .inl ⟨e1, h2, if_pos (.inr h2)⟩
    · refine .inr ?_
      rw [if_neg (by rintro (h | h); exact h h1; exact h2 h)]
      by_cases h3 : checkU ⟨us S, us U, us H, n, F, G⟩ = 0
      · exact .inr ⟨e1, h2, h3, by rw [if_neg (fun h => h h3)]⟩
      · exact .inl ⟨e1, h2, by simpa using h3, by rw [if_pos h3]⟩
  · exact .inl ⟨by simpa using h1, if_pos (.inl h1)⟩

set_option maxRecDepth 100000 in
set_option maxHeartbeats 6400000 in
theorem checkA_c (D S U H : ByteArray) (n : Int) (u1 u2 u3 : Value) (F G P : List Prm) (hD : D.size ≤ 4294967280) (hS : S.size ≤ 4294967280) (hH : H.size ≤ 4294967280) (w : World) (hm : Ml w) (h1 : RPrms w u1 F) (h2 : RPrms w u2 G) (h3 : RPrms w u3 P) (hb1 : ∀ p ∈ F, p.name.length ≤ 4294967280 ∧ p.value.length ≤ 4294967280) (hb2 : ∀ p ∈ G, p.name.length ≤ 4294967280 ∧ p.value.length ≤ 4294967280) (hb3 : ∀ p ∈ P, p.name.length ≤ 4294967280 ∧ p.value.length ≤ 4294967280) :
    Calls Tryz.prog 7 #[.agg #[.string D, .string S, .string U, .string H, .int .i64 n, u1, u2, u3]] w fun e w' => e = .returned (.int .i64 (checkA (⟨us D, ⟨us S, us U, us H, n, F, G⟩, P⟩ : Adr))) ∧ Below w.heap.size w w' := by
  have HM := Lib.hid hm
  have HU1 := Lib.hid h1
  have HU2 := Lib.hid h2
  have HU3 := Lib.hid h3
  obtain ⟨ao, ac, rfl, _, _⟩ := h1.form
  obtain ⟨bo, bc, rfl, _, _⟩ := h2.form
  obtain ⟨co, cc, rfl, _, _⟩ := h3.form
  have HQ := Lib.hid (fun wx => quote_c D (by omega) wx)
  have HU := Lib.hid (fun wx hx h1 h2 => checkU_c S U H n (.slice ao F.length ac) (.slice bo G.length bc) F G hS hH wx hx h1 h2 hb1 hb2)
  have HT := Lib.hid (fun wx hx hv => text_c (.slice co P.length cc) P wx hx hv hb3)
  have hcs := checkA_cases D S U H n F G P
  obtain ⟨q, hq⟩ : ∃ q, q = quote (us D) := ⟨_, rfl⟩
  obtain ⟨cu, hcu⟩ : ∃ q, q = checkU ⟨us S, us U, us H, n, F, G⟩ := ⟨_, rfl⟩
  obtain ⟨t, ht⟩ : ∃ q, q = textS P := ⟨_, rfl⟩
  obtain ⟨C, hC⟩ : ∃ C, C = checkA (⟨us D, ⟨us S, us U, us H, n, F, G⟩, P⟩ : Adr) := ⟨_, rfl⟩
  rw [← hq] at HQ hcs
  rw [← hcu] at HU hcs
  rw [← ht] at HT hcs
  rw [← hC] at hcs ⊢
  clear hq hcu ht hC h1 h2 h3 hb1 hb2 hb3 hm
  obtain ⟨qs, qe⟩ := q
  obtain ⟨ts, te⟩ := t
  dsimp only at hcs HQ HT
  have hB0 : Below w.heap.size w (w.alloc (.cells #[.string D, .string S, .string U, .string H, .int .i64 n, .slice ao F.length ac, .slice bo G.length bc, .slice co P.length cc] 26)) := (Below.refl _ _).alloc (Nat.le_refl _) _
  have bm0 := Blk.new w 26 #[.string D, .string S, .string U, .string H, .int .i64 n, .slice ao F.length ac, .slice bo G.length bc, .slice co P.length cc]
  obtain ⟨w0, hw0⟩ : ∃ w0, w0 = w.alloc (.cells #[.string D, .string S, .string U, .string H, .int .i64 n, .slice ao F.length ac, .slice bo G.length bc, .slice co P.length cc] 26) := ⟨_, rfl⟩
  rw [← hw0] at hB0 bm0
  have HX := Lib.hid (fun (wx : World) (h : Below w0.heap.size w0 wx) => (show Blk wx w.heap.size 26 #[.string D, .string S, .string U, .string H, .int .i64 n, .slice ao F.length ac, .slice bo G.length bc, .slice co P.length cc] ∧ Below w.heap.size w wx ∧ Ml wx ∧ RPrms wx (.slice ao F.length ac) F ∧ RPrms wx (.slice bo G.length bc) G ∧ RPrms wx (.slice co P.length cc) P from by
    have hx := hB0.trans (h.mono hB0.size)
    exact ⟨bm0.call h, hx, HM.out.below hx, HU1.out.below hx (Nat.le_refl _), HU2.out.below hx (Nat.le_refl _), HU3.out.below hx (Nat.le_refl _)⟩))
  have HW0 := Lib.hid hw0
  have hZ : Below w0.heap.size w0 w0 := Below.refl _ _
  obtain ⟨bm, hBB, hMM, hU1, hU2, hU3⟩ := HX.out _ hZ
  obtain ⟨p0, p1, p2, p3, p4, p5, p6, p7⟩ := blk_f8 bm
  clear hw0 bm0 hB0
  rcases hcs with ⟨c1, rfl⟩ | ⟨c1, c2, rfl⟩ | ⟨c1, c2, c3, rfl⟩ | ⟨c1, c2, rfl, rfl⟩
  all_goals
    go_enter Tryz.func7, Tryz.ntmps7
    go_wp2_with (first | (go_at_call 14; (try rw [← HW0.out]); refine (HQ.out _).mono ?_; rintro e w1 ⟨rfl, hC1⟩; have hZ := hZ.trans (hC1.mono hZ.size); obtain ⟨bm, hBB, hMM, hU1, hU2, hU3⟩ := HX.out _ hZ; obtain ⟨p0, p1, p2, p3, p4, p5, p6, p7⟩ := blk_f8 bm) | (go_at_call 18; refine (HU.out _ hMM hU1 hU2).mono ?_; rintro e w2 ⟨rfl, hC2⟩; have hZ := hZ.trans (hC2.mono hZ.size); obtain ⟨bm, hBB, hMM, hU1, hU2, hU3⟩ := HX.out _ hZ; obtain ⟨p0, p1, p2, p3, p4, p5, p6, p7⟩ := blk_f8 bm) | (go_at_call 13; refine (HT.out _ hMM hU3).mono ?_; rintro e w3 ⟨rfl, hC3⟩; have hZ := hZ.trans (hC3.mono hZ.size); obtain ⟨bm, hBB, hMM, hU1, hU2, hU3⟩ := HX.out _ hZ; obtain ⟨p0, p1, p2, p3, p4, p5, p6, p7⟩ := blk_f8 bm))
    go_ret
    exact ⟨by first | rfl | exact ret_int (by assumption), hBB⟩

set_option maxRecDepth 100000 in
set_option maxHeartbeats 6400000 in
theorem printA_c (D S U H : ByteArray) (n : Int) (u1 u2 u3 : Value) (F G P : List Prm) (hD : D.size ≤ 4294967280) (hS : S.size ≤ 4294967280) (hH : H.size ≤ 4294967280) (hn0 : -9223372036854775808 ≤ n) (hn1 : n ≤ 9223372036854775807) (w : World) (hm : Ml w) (h1 : RPrms w u1 F) (h2 : RPrms w u2 G) (h3 : RPrms w u3 P) (hb1 : ∀ p ∈ F, p.name.length ≤ 4294967280 ∧ p.value.length ≤ 4294967280) (hb2 : ∀ p ∈ G, p.name.length ≤ 4294967280 ∧ p.value.length ≤ 4294967280) (hb3 : ∀ p ∈ P, p.name.length ≤ 4294967280 ∧ p.value.length ≤ 4294967280) :
    Calls Tryz.prog 5 #[.agg #[.string D, .string S, .string U, .string H, .int .i64 n, u1, u2, u3]] w fun e w' => e = .returned (.tuple #[.string (bs (printA (⟨us D, ⟨us S, us U, us H, n, F, G⟩, P⟩ : Adr)).1), .int .i64 (printA (⟨us D, ⟨us S, us U, us H, n, F, G⟩, P⟩ : Adr)).2]) ∧ Below w.heap.size w w' := by
  have HM := Lib.hid hm
  have HU1 := Lib.hid h1
  have HU2 := Lib.hid h2
  have HU3 := Lib.hid h3
  obtain ⟨ao, ac, rfl, _, _⟩ := h1.form
  obtain ⟨bo, bc, rfl, _, _⟩ := h2.form
  obtain ⟨co, cc, rfl, _, _⟩ := h3.form
  have HQ := Lib.hid (fun wx => quote_c D (by omega) wx)
  have HC := Lib.hid (fun wx hx h1 h2 h3 => checkA_c D S U H n (.slice ao F.length ac) (.slice bo G.length bc) (.slice co P.length cc) F G P hD hS hH wx hx h1 h2 h3 hb1 hb2 hb3)
  have HU := Lib.hid (fun wx hx h1 h2 => printU_c S U H n (.slice ao F.length ac) (.slice bo G.length bc) F G hS hH hn0 hn1 wx hx h1 h2 hb1 hb2)
  have HT := Lib.hid (fun wx hx hv => text_c (.slice co P.length cc) P wx hx hv hb3)
  have hpr : printA (⟨us D, ⟨us S, us U, us H, n, F, G⟩, P⟩ : Adr) = if checkA (⟨us D, ⟨us S, us U, us H, n, F, G⟩, P⟩ : Adr) = 0 then (textA (⟨us D, ⟨us S, us U, us H, n, F, G⟩, P⟩ : Adr), 0) else ([], checkA (⟨us D, ⟨us S, us U, us H, n, F, G⟩, P⟩ : Adr)) := rfl
  have hpt := checkA_parts (⟨us D, ⟨us S, us U, us H, n, F, G⟩, P⟩ : Adr)
  have htx : textA (⟨us D, ⟨us S, us U, us H, n, F, G⟩, P⟩ : Adr) = nameT (us D) ++ 60 :: (textU ⟨us S, us U, us H, n, F, G⟩ ++ 62 :: (textS P).1) := rfl
  have hul := textU_le ⟨us S, us U, us H, n, F, G⟩
  have hpu : checkU ⟨us S, us U, us H, n, F, G⟩ = 0 → printU ⟨us S, us U, us H, n, F, G⟩ = (textU ⟨us S, us U, us H, n, F, G⟩, 0) := fun h => if_pos h
  have htl := textS_le P
  dsimp only at hpt
  obtain ⟨PA, hPA⟩ : ∃ C, C = printA (⟨us D, ⟨us S, us U, us H, n, F, G⟩, P⟩ : Adr) := ⟨_, rfl⟩
  rw [← hPA] at hpr ⊢
  obtain ⟨C, hC⟩ : ∃ C, C = checkA (⟨us D, ⟨us S, us U, us H, n, F, G⟩, P⟩ : Adr) := ⟨_, rfl⟩
  rw [← hC] at HC hpr hpt
  obtain ⟨TA, hTA⟩ : ∃ C, C = textA (⟨us D, ⟨us S, us U, us H, n, F, G⟩, P⟩ : Adr) := ⟨_, rfl⟩
  rw [← hTA] at hpr htx
  clear hPA hC hTA h1 h2 h3 hb1 hb2 hb3 hm
  have hB0 : Below w.heap.size w (w.alloc (.cells #[.string D, .string S, .string U, .string H, .int .i64 n, .slice ao F.length ac, .slice bo G.length bc, .slice co P.length cc] 26)) := (Below.refl _ _).alloc (Nat.le_refl _) _
  have bm0 := Blk.new w 26 #[.string D, .string S, .string U, .string H, .int .i64 n, .slice ao F.length ac, .slice bo G.length bc, .slice co P.length cc]
  obtain ⟨w0, hw0⟩ : ∃ w0, w0 = w.alloc (.cells #[.string D, .string S, .string U, .string H, .int .i64 n, .slice ao F.length ac, .slice bo G.length bc, .slice co P.length cc] 26) := ⟨_, rfl⟩
  rw [← hw0] at hB0 bm0
  have HX := Lib.hid (fun (wx : World) (h : Below w0.heap.size w0 wx) => (show Blk wx w.heap.size 26 #[.string D, .string S, .string U, .string H, .int .i64 n, .slice ao F.length ac, .slice bo G.length bc, .slice co P.length cc] ∧ Below w.heap.size w wx ∧ Ml wx ∧ RPrms wx (.slice ao F.length ac) F ∧ RPrms wx (.slice bo G.length bc) G ∧ RPrms wx (.slice co P.length cc) P from by
    have hx := hB0.trans (h.mono hB0.size)
    exact ⟨bm0.call h, hx, HM.out.below hx, HU1.out.below hx (Nat.le_refl _), HU2.out.below hx (Nat.le_refl _), HU3.out.below hx (Nat.le_refl _)⟩))
  have HW0 := Lib.hid hw0
  have hZ : Below w0.heap.size w0 w0 := Below.refl _ _
  obtain ⟨bm, hBB, hMM, hU1, hU2, hU3⟩ := HX.out _ hZ
  obtain ⟨p0, p1, p2, p3, p4, p5, p6, p7⟩ := blk_f8 bm
  clear hw0 bm0 hB0
  by_cases hc : C = 0
  case neg =>
    rw [if_neg hc] at hpr
    have t0 : (C != 0) = true := by simpa using hc
    have HPR := Lib.hid hpr
    clear hpr hpt htx hul hpu htl hc
    go_enter Tryz.func5, Tryz.ntmps5
    go_wp2_with (first | (go_at_call 7; (try rw [← HW0.out]); refine (HC.out _ hMM hU1 hU2 hU3).mono ?_; rintro e w1 ⟨rfl, hC1⟩; have hZ := hZ.trans (hC1.mono hZ.size); obtain ⟨bm, hBB, hMM, hU1, hU2, hU3⟩ := HX.out _ hZ; obtain ⟨p0, p1, p2, p3, p4, p5, p6, p7⟩ := blk_f8 bm) | (go_at_call 12; refine (HU.out _ hMM hU1 hU2).mono ?_; rintro e w2 ⟨rfl, hC2⟩; have hZ := hZ.trans (hC2.mono hZ.size); obtain ⟨bm, hBB, hMM, hU1, hU2, hU3⟩ := HX.out _ hZ; obtain ⟨p0, p1, p2, p3, p4, p5, p6, p7⟩ := blk_f8 bm) | (go_at_call 13; refine (HT.out _ hMM hU3).mono ?_; rintro e w3 ⟨rfl, hC3⟩; have hZ := hZ.trans (hC3.mono hZ.size); obtain ⟨bm, hBB, hMM, hU1, hU2, hU3⟩ := HX.out _ hZ; obtain ⟨p0, p1, p2, p3, p4, p5, p6, p7⟩ := blk_f8 bm) | (go_at_call 14; refine (HQ.out _).mono ?_; rintro e w4 ⟨rfl, hC4⟩; have hZ := hZ.trans (hC4.mono hZ.size); obtain ⟨bm, hBB, hMM, hU1, hU2, hU3⟩ := HX.out _ hZ; obtain ⟨p0, p1, p2, p3, p4, p5, p6, p7⟩ := blk_f8 bm))
    go_ret2
    exact ⟨ret_si (p := PA) (by rw [HPR.out]; rfl), hBB⟩
  obtain ⟨q0, d64, cu0, t0⟩ := hpt hc
  subst hc
  rw [if_pos rfl] at hpr
  have hul := hul cu0
  have hpu := hpu cu0
  have hqn := quote_le (us D)
  have hnm : nameT (us D) = if us D = [] then [] else (quote (us D)).1 ++ [32] := rfl
  rw [hpu] at HU
  rw [hnm] at htx
  have hdn : us D = [] ↔ D.size = 0 := by rw [← length_us, List.length_eq_zero_iff]
  rw [length_us] at d64 hqn
  obtain ⟨TU, hTU⟩ : ∃ x, x = bs (textU ⟨us S, us U, us H, n, F, G⟩) := ⟨_, rfl⟩
  have uTU : textU ⟨us S, us U, us H, n, F, G⟩ = us TU := by rw [hTU, us_bs]
  obtain ⟨TP, hTP⟩ : ∃ x, x = bs (textS P).1 := ⟨_, rfl⟩
  have uTP : (textS P).1 = us TP := by rw [hTP, us_bs]
  obtain ⟨QD, hQD⟩ : ∃ x, x = bs (quote (us D)).1 := ⟨_, rfl⟩
  have uQD : (quote (us D)).1 = us QD := by rw [hQD, us_bs]
  rw [← hTU] at HU
  rw [← hTP, t0] at HT
  rw [← hQD, q0] at HQ
  rw [uTU, length_us] at hul
  rw [uTP, length_us] at htl
  rw [uQD, length_us] at hqn
  rw [uTU, uTP, uQD] at htx
  have HPR := Lib.hid hpr
  clear hpr hpu hTU uTU hTP uTP hQD uQD hnm cu0 q0 t0
  by_cases hd : D.size = 0
  · rw [if_pos (hdn.2 hd), List.nil_append] at htx
    have HTX := Lib.hid htx
    obtain rfl := eq_empty hd
    clear htx hd hdn
    go_enter Tryz.func5, Tryz.ntmps5
    go_wp2_with (first | (go_at_call 7; (try rw [← HW0.out]); refine (HC.out _ hMM hU1 hU2 hU3).mono ?_; rintro e w1 ⟨rfl, hC1⟩; have hZ := hZ.trans (hC1.mono hZ.size); obtain ⟨bm, hBB, hMM, hU1, hU2, hU3⟩ := HX.out _ hZ; obtain ⟨p0, p1, p2, p3, p4, p5, p6, p7⟩ := blk_f8 bm) | (go_at_call 12; refine (HU.out _ hMM hU1 hU2).mono ?_; rintro e w2 ⟨rfl, hC2⟩; have hZ := hZ.trans (hC2.mono hZ.size); obtain ⟨bm, hBB, hMM, hU1, hU2, hU3⟩ := HX.out _ hZ; obtain ⟨p0, p1, p2, p3, p4, p5, p6, p7⟩ := blk_f8 bm) | (go_at_call 13; refine (HT.out _ hMM hU3).mono ?_; rintro e w3 ⟨rfl, hC3⟩; have hZ := hZ.trans (hC3.mono hZ.size); obtain ⟨bm, hBB, hMM, hU1, hU2, hU3⟩ := HX.out _ hZ; obtain ⟨p0, p1, p2, p3, p4, p5, p6, p7⟩ := blk_f8 bm) | (go_at_call 14; refine (HQ.out _).mono ?_; rintro e w4 ⟨rfl, hC4⟩; have hZ := hZ.trans (hC4.mono hZ.size); obtain ⟨bm, hBB, hMM, hU1, hU2, hU3⟩ := HX.out _ hZ; obtain ⟨p0, p1, p2, p3, p4, p5, p6, p7⟩ := blk_f8 bm))
    go_ret2
    exact ⟨ret_si (p := PA) (by rw [HPR.out, HTX.out]; simp [us]), hBB⟩
  · rw [if_neg (fun h => hd (hdn.1 h))] at htx
    have HTX := Lib.hid htx
    have pE := ne_empty hd
    have pF := isEmpty_f hd
    clear htx hd hdn
    go_enter Tryz.func5, Tryz.ntmps5
    go_wp2_with (first | (go_at_call 7; (try rw [← HW0.out]); refine (HC.out _ hMM hU1 hU2 hU3).mono ?_; rintro e w1 ⟨rfl, hC1⟩; have hZ := hZ.trans (hC1.mono hZ.size); obtain ⟨bm, hBB, hMM, hU1, hU2, hU3⟩ := HX.out _ hZ; obtain ⟨p0, p1, p2, p3, p4, p5, p6, p7⟩ := blk_f8 bm) | (go_at_call 12; refine (HU.out _ hMM hU1 hU2).mono ?_; rintro e w2 ⟨rfl, hC2⟩; have hZ := hZ.trans (hC2.mono hZ.size); obtain ⟨bm, hBB, hMM, hU1, hU2, hU3⟩ := HX.out _ hZ; obtain ⟨p0, p1, p2, p3, p4, p5, p6, p7⟩ := blk_f8 bm) | (go_at_call 13; refine (HT.out _ hMM hU3).mono ?_; rintro e w3 ⟨rfl, hC3⟩; have hZ := hZ.trans (hC3.mono hZ.size); obtain ⟨bm, hBB, hMM, hU1, hU2, hU3⟩ := HX.out _ hZ; obtain ⟨p0, p1, p2, p3, p4, p5, p6, p7⟩ := blk_f8 bm) | (go_at_call 14; refine (HQ.out _).mono ?_; rintro e w4 ⟨rfl, hC4⟩; have hZ := hZ.trans (hC4.mono hZ.size); obtain ⟨bm, hBB, hMM, hU1, hU2, hU3⟩ := HX.out _ hZ; obtain ⟨p0, p1, p2, p3, p4, p5, p6, p7⟩ := blk_f8 bm))
    go_ret2
    exact ⟨ret_si (p := PA) (by rw [HPR.out, HTX.out]; simp [us]), hBB⟩

end Go.Proofs.YtjpmfcipjaeemaaGreatDoor
