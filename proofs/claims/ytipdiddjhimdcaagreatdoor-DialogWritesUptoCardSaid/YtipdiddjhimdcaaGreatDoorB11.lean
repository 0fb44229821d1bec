/- Contracts of Go functions, and plain laws. No condition but those told. -/
import Derived.Test.YtipdiddjhimdcaaGreatDoorB06
import Derived.Test.YtipdiddjhimdcaaGreatDoorShelf
import Derived.Laws.RangeAny
import Derived.Lib.FieldsP
import Derived.Deep.LoopGhost
set_option linter.unusedSimpArgs false
set_option linter.unusedVariables false
set_option maxRecDepth 100000
namespace Go.Proofs.YtipdiddjhimdcaaGreatDoor
end Go.Proofs.YtipdiddjhimdcaaGreatDoor
namespace Go.Proofs.YtipdiddjhimdcaaGreatDoor
open Go.RowKit
end Go.Proofs.YtipdiddjhimdcaaGreatDoor
namespace Go.Proofs.YtipdiddjhimdcaaGreatDoor
open Go.RowKit Go.Sort
theorem checkA_cases (D S U H : ByteArray) (n : Int) (F G P : List Prm) :
  (((quote (us D)).2 != 0) = true ∧ checkA (⟨us D, ⟨us S, us U, us H, n, F, G⟩, P⟩ : Adr) = 50) ∨ (((quote (us D)).2 != 0) = false ∧ 64 < D.size ∧ checkA (⟨us D, ⟨us S, us U, us H, n, F, G⟩, P⟩ : Adr) = 50) ∨
  (((quote (us D)).2 != 0) = false ∧ ¬ 64 < D.size ∧ (checkU ⟨us S, us U, us H, n, F, G⟩ != 0) = true ∧ checkA (⟨us D, ⟨us S, us U, us H, n, F, G⟩, P⟩ : Adr) = checkU ⟨us S, us U, us H, n, F, G⟩) ∨
  (((quote (us D)).2 != 0) = false ∧ ¬ 64 < D.size ∧ checkU ⟨us S, us U, us H, n, F, G⟩ = 0 ∧ checkA (⟨us D, ⟨us S, us U, us H, n, F, G⟩, P⟩ : Adr) = (textS P).2) := by
 unfold checkA
 dsimp only
 rw [length_us]
 by_cases h1 : (quote (us D)).2 = 0
 ·have e1 : ((quote (us D)).2 != 0) = false := by simpa using h1
  refine .inr ?_
  by_cases h2 : 64 < D.size
  ·exact .inl ⟨e1, h2, if_pos (.inr h2)⟩
  ·refine .inr ?_
   rw [if_neg (by rintro (h | h); exact h h1; exact h2 h)]
   by_cases h3 : checkU ⟨us S, us U, us H, n, F, G⟩ = 0
   ·exact .inr ⟨e1, h2, h3, by rw [if_neg (fun h => h h3)]⟩
   ·exact .inl ⟨e1, h2, by simpa using h3, by rw [if_pos h3]⟩
 ·exact .inl ⟨by simpa using h1, if_pos (.inl h1)⟩
set_option maxHeartbeats 6400000 in
theorem checkA_c (D S U H : ByteArray) (n : Int) (u1 u2 u3 : Value) (F G P : List Prm) (hD : D.size ≤ 4294967280) (hS : S.size ≤ 4294967280) (hH : H.size ≤ 4294967280) (w : World) (hm : Ml w) (h1 : RPrms w u1 F) (h2 : RPrms w u2 G) (h3 : RPrms w u3 P) (hb1 : ∀ p ∈ F, p.name.length ≤ 4294967280 ∧ p.value.length ≤ 4294967280) (hb2 : ∀ p ∈ G, p.name.length ≤ 4294967280 ∧ p.value.length ≤ 4294967280) (hb3 : ∀ p ∈ P, p.name.length ≤ 4294967280 ∧ p.value.length ≤ 4294967280) :
  Calls Tryz.prog 36 #[.agg #[.string D, .string S, .string U, .string H, .int .i64 n, u1, u2, u3]] w fun e w' => e = .returned (.int .i64 (checkA (⟨us D, ⟨us S, us U, us H, n, F, G⟩, P⟩ : Adr))) ∧ Below w.heap.size w w' := by
 have HM := κ hm
 have HU1 := κ h1
 have HU2 := κ h2
 have HU3 := κ h3
 obtain ⟨ao, ac, rfl, _, _⟩ := h1.form
 obtain ⟨bo, bc, rfl, _, _⟩ := h2.form
 obtain ⟨co, cc, rfl, _, _⟩ := h3.form
 have HQ := κ (fun wx => quote_c D (by omega) wx)
 have HU := κ (fun wx hx h1 h2 => checkU_c S U H n (.slice ao F.length ac) (.slice bo G.length bc) F G hS hH wx hx h1 h2 hb1 hb2)
 have HT := κ (fun wx hx hv => text_c (.slice co P.length cc) P wx hx hv hb3)
 have hcs := checkA_cases D S U H n F G P
 obtain ⟨q, hq⟩ : ∃ q, q = quote (us D) := ⟨_, rfl⟩
 obtain ⟨cu, hcu⟩ : ∃ q, q = checkU ⟨us S, us U, us H, n, F, G⟩ := ⟨_, rfl⟩
 obtain ⟨t, ht⟩ : ∃ q, q = textS P := ⟨_, rfl⟩
 obtain ⟨C, hC⟩ : ∃ C, C = checkA (⟨us D, ⟨us S, us U, us H, n, F, G⟩, P⟩ : Adr) := ⟨_, rfl⟩
 rw [← hq] at HQ hcs
 rw [← hcu] at HU hcs
 rw [← ht] at HT hcs
 rw [← hC] at hcs ⊢
 clear hq hcu ht hC h1 h2 h3 hb1 hb2 hb3 hm
 obtain ⟨qs, qe⟩ := q
 obtain ⟨ts, te⟩ := t
 dsimp only at hcs HQ HT
 have hB0 : Below w.heap.size w (w.alloc (.cells #[.string D, .string S, .string U, .string H, .int .i64 n, .slice ao F.length ac, .slice bo G.length bc, .slice co P.length cc] 26)) := (Below.refl _ _).alloc (ρ _) _
 have bm0 := Blk.new w 26 #[.string D, .string S, .string U, .string H, .int .i64 n, .slice ao F.length ac, .slice bo G.length bc, .slice co P.length cc]
 obtain ⟨w0, hw0⟩ : ∃ w0, w0 = w.alloc (.cells #[.string D, .string S, .string U, .string H, .int .i64 n, .slice ao F.length ac, .slice bo G.length bc, .slice co P.length cc] 26) := ⟨_, rfl⟩
 rw [← hw0] at hB0 bm0
 have HX := κ (fun (wx : World) (h : Below w0.heap.size w0 wx) => (show Blk wx w.heap.size 26 #[.string D, .string S, .string U, .string H, .int .i64 n, .slice ao F.length ac, .slice bo G.length bc, .slice co P.length cc] ∧ Below w.heap.size w wx ∧ Ml wx ∧ RPrms wx (.slice ao F.length ac) F ∧ RPrms wx (.slice bo G.length bc) G ∧ RPrms wx (.slice co P.length cc) P from by
  have hx := hB0.trans (h.mono hB0.size)
  exact ⟨bm0.call h, hx, HM.out.below hx, HU1.out.below hx (ρ _), HU2.out.below hx (ρ _), HU3.out.below hx (ρ _)⟩))
 have HW0 := κ hw0
 have hZ : Below w0.heap.size w0 w0 := Below.refl _ _
 obtain ⟨bm, hBB, hMM, hU1, hU2, hU3⟩ := HX.out _ hZ
 obtain ⟨p0, p1, p2, p3, p4, p5, p6, p7⟩ := blk_f8 bm
 clear hw0 bm0 hB0
 rcases hcs with ⟨c1, rfl⟩ | ⟨c1, c2, rfl⟩ | ⟨c1, c2, c3, rfl⟩ | ⟨c1, c2, rfl, rfl⟩
 all_goals
  go_enter Tryz.func36, Tryz.ntmps36
  go_wp2_with (first | (go_at_call 80; (try rw [← HW0.out]); refine (HQ.out _).mono ?_; rintro e w1 ⟨rfl, hC1⟩; have hZ := hZ.trans (hC1.mono hZ.size); obtain ⟨bm, hBB, hMM, hU1, hU2, hU3⟩ := HX.out _ hZ; obtain ⟨p0, p1, p2, p3, p4, p5, p6, p7⟩ := blk_f8 bm) | (go_at_call 81; refine (HU.out _ hMM hU1 hU2).mono ?_; rintro e w2 ⟨rfl, hC2⟩; have hZ := hZ.trans (hC2.mono hZ.size); obtain ⟨bm, hBB, hMM, hU1, hU2, hU3⟩ := HX.out _ hZ; obtain ⟨p0, p1, p2, p3, p4, p5, p6, p7⟩ := blk_f8 bm) | (go_at_call 82; refine (HT.out _ hMM hU3).mono ?_; rintro e w3 ⟨rfl, hC3⟩; have hZ := hZ.trans (hC3.mono hZ.size); obtain ⟨bm, hBB, hMM, hU1, hU2, hU3⟩ := HX.out _ hZ; obtain ⟨p0, p1, p2, p3, p4, p5, p6, p7⟩ := blk_f8 bm))
  go_ret
  exact ⟨by first | rfl | exact ret_int (by assumption), hBB⟩
end Go.Proofs.YtipdiddjhimdcaaGreatDoor
