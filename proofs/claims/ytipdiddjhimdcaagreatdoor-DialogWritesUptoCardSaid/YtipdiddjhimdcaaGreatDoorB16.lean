/- Contracts of Go functions, and plain laws. No condition but those told. -/
import Derived.Test.YtipdiddjhimdcaaGreatDoorB15
import Derived.Deep.RegionWith
import Derived.Laws.IdiomCopy
import Derived.Laws.Cells
import Derived.Laws.Tables
set_option linter.unusedSimpArgs false
set_option linter.unusedVariables false
set_option maxRecDepth 100000
namespace Go.Proofs.YtipdiddjhimdcaaGreatDoor
open Go.RowKit Go.Sort
theorem blkg6 {w : World} {g : Nat} {t : TypeId} {a b c d e f : Value} (h : Blk w g t #[a, b, c, d, e, f]) :
  w.cell? ⟨g, 0, none⟩ = some a ∧ w.cell? ⟨g, 1, none⟩ = some b ∧ w.cell? ⟨g, 2, none⟩ = some c ∧ w.cell? ⟨g, 3, none⟩ = some d ∧ w.cell? ⟨g, 4, none⟩ = some e ∧ w.cell? ⟨g, 5, none⟩ = some f ∧ w.frozen? ⟨g, 0, none⟩ = false ∧ w.frozen? ⟨g, 1, none⟩ = false ∧ w.frozen? ⟨g, 2, none⟩ = false ∧ w.frozen? ⟨g, 3, none⟩ = false ∧ w.frozen? ⟨g, 4, none⟩ = false ∧ w.frozen? ⟨g, 5, none⟩ = false ∧ g < w.heap.size :=
 ⟨boxedCell h 0, boxedCell h 1, boxedCell h 2, boxedCell h 3, boxedCell h 4, boxedCell h 5, boxedFree h 0, boxedFree h 1, boxedFree h 2, boxedFree h 3, boxedFree h 4, boxedFree h 5, h.lt⟩
theorem blkg8 {w : World} {g : Nat} {t : TypeId} {a b c d e f i j : Value} (h : Blk w g t #[a, b, c, d, e, f, i, j]) :
  w.cell? ⟨g, 0, none⟩ = some a ∧ w.cell? ⟨g, 1, none⟩ = some b ∧ w.cell? ⟨g, 2, none⟩ = some c ∧ w.cell? ⟨g, 3, none⟩ = some d ∧ w.cell? ⟨g, 4, none⟩ = some e ∧ w.cell? ⟨g, 5, none⟩ = some f ∧ w.cell? ⟨g, 6, none⟩ = some i ∧ w.cell? ⟨g, 7, none⟩ = some j ∧ w.frozen? ⟨g, 0, none⟩ = false ∧ w.frozen? ⟨g, 1, none⟩ = false ∧ w.frozen? ⟨g, 2, none⟩ = false ∧ w.frozen? ⟨g, 3, none⟩ = false ∧ w.frozen? ⟨g, 4, none⟩ = false ∧ w.frozen? ⟨g, 5, none⟩ = false ∧ w.frozen? ⟨g, 6, none⟩ = false ∧ w.frozen? ⟨g, 7, none⟩ = false ∧ g < w.heap.size :=
 ⟨boxedCell h 0, boxedCell h 1, boxedCell h 2, boxedCell h 3, boxedCell h 4, boxedCell h 5, boxedCell h 6, boxedCell h 7, boxedFree h 0, boxedFree h 1, boxedFree h 2, boxedFree h 3, boxedFree h 4, boxedFree h 5, boxedFree h 6, boxedFree h 7, h.lt⟩
set_option maxHeartbeats 6400000 in
theorem cloned_c (S U H : ByteArray) (n : Int) (u1 u2 : Value) (F G : List Prm) (w : World) (h1 : RPrms w u1 F) (h2 : RPrms w u2 G) (l1 : F.length ≤ 1099511627776) (l2 : G.length ≤ 1099511627776) :
  Calls Tryz.prog 34 #[.agg #[.string S, .string U, .string H, .int .i64 n, u1, u2]] w fun e w' => ∃ v1 v2, e = .returned (.agg #[.string S, .string U, .string H, .int .i64 n, v1, v2]) ∧ RPrms w' v1 F ∧ RPrms w' v2 G ∧ Fresh w.heap.size v1 ∧ Fresh w.heap.size v2 ∧ Below w.heap.size w w' := by
 have HU1 := κ h1
 have HU2 := κ h2
 obtain ⟨ao, ac, rfl, _, _⟩ := h1.form
 obtain ⟨bo, bc, rfl, _, _⟩ := h2.form
 have HC1 := κ (fun wx hx => cloneP_c (.slice ao F.length ac) F wx hx l1)
 have HC2 := κ (fun wx hx => cloneP_c (.slice bo G.length bc) G wx hx l2)
 clear h1 h2
 have hZ0 : Below w.heap.size w ((w.alloc (.cells #[.string S, .string U, .string H, .int .i64 n, .slice ao F.length ac, .slice bo G.length bc] 24)).alloc (.cells #[.string ⟨#[]⟩, .string ⟨#[]⟩, .string ⟨#[]⟩, .int .i64 0, .slice none 0 0, .slice none 0 0] 24)) := ((Below.refl _ _).alloc (ρ _) _).alloc (by rw [World.size_alloc]; omega) _
 have bmR0 : Blk ((w.alloc (.cells #[.string S, .string U, .string H, .int .i64 n, .slice ao F.length ac, .slice bo G.length bc] 24)).alloc (.cells #[.string ⟨#[]⟩, .string ⟨#[]⟩, .string ⟨#[]⟩, .int .i64 0, .slice none 0 0, .slice none 0 0] 24)) w.heap.size 24 #[.string S, .string U, .string H, .int .i64 n, .slice ao F.length ac, .slice bo G.length bc] := (Blk.new w 24 #[.string S, .string U, .string H, .int .i64 n, .slice ao F.length ac, .slice bo G.length bc]).alloc _
 have bmU0 : Blk ((w.alloc (.cells #[.string S, .string U, .string H, .int .i64 n, .slice ao F.length ac, .slice bo G.length bc] 24)).alloc (.cells #[.string ⟨#[]⟩, .string ⟨#[]⟩, .string ⟨#[]⟩, .int .i64 0, .slice none 0 0, .slice none 0 0] 24)) (w.heap.size + 1) 24 #[.string ⟨#[]⟩, .string ⟨#[]⟩, .string ⟨#[]⟩, .int .i64 0, .slice none 0 0, .slice none 0 0] := by
  have := Blk.new (w.alloc (.cells #[.string S, .string U, .string H, .int .i64 n, .slice ao F.length ac, .slice bo G.length bc] 24)) 24 #[.string ⟨#[]⟩, .string ⟨#[]⟩, .string ⟨#[]⟩, .int .i64 0, .slice none 0 0, .slice none 0 0]
  rwa [World.size_alloc] at this
 have hs2 : ((w.alloc (.cells #[.string S, .string U, .string H, .int .i64 n, .slice ao F.length ac, .slice bo G.length bc] 24)).alloc (.cells #[.string ⟨#[]⟩, .string ⟨#[]⟩, .string ⟨#[]⟩, .int .i64 0, .slice none 0 0, .slice none 0 0] 24)).heap.size = w.heap.size + 2 := by rw [World.size_alloc, World.size_alloc]
 obtain ⟨w0, hw0⟩ : ∃ w0, w0 = ((w.alloc (.cells #[.string S, .string U, .string H, .int .i64 n, .slice ao F.length ac, .slice bo G.length bc] 24)).alloc (.cells #[.string ⟨#[]⟩, .string ⟨#[]⟩, .string ⟨#[]⟩, .int .i64 0, .slice none 0 0, .slice none 0 0] 24)) := ⟨_, rfl⟩
 rw [← hw0] at hZ0 bmR0 bmU0 hs2
 have HX := κ (fun (wx : World) (h : Below w0.heap.size w0 wx) => (show Blk wx w.heap.size 24 #[.string S, .string U, .string H, .int .i64 n, .slice ao F.length ac, .slice bo G.length bc] ∧ Blk wx (w.heap.size + 1) 24 #[.string ⟨#[]⟩, .string ⟨#[]⟩, .string ⟨#[]⟩, .int .i64 0, .slice none 0 0, .slice none 0 0] ∧ Below w.heap.size w wx ∧ RPrms wx (.slice ao F.length ac) F ∧ RPrms wx (.slice bo G.length bc) G from by
  have hx := hZ0.trans (h.mono hZ0.size)
  exact ⟨bmR0.call h, bmU0.call h, hx, HU1.out.below hx (ρ _), HU2.out.below hx (ρ _)⟩))
 have HW0 := κ hw0
 have HS2 := κ hs2
 have hZ : Below w0.heap.size w0 w0.drew := (Below.refl _ _).drew
 obtain ⟨bmR, bmU, hBB, hU1, hU2⟩ := HX.out _ hZ
 obtain ⟨p0, p1, p2, p3, p4, p5, q0, q1, q2, q3, q4, q5, zR⟩ := blkg6 bmR
 obtain ⟨m0, m1, m2, m3, m4, m5, f0, f1, f2, f3, f4, f5, zU⟩ := blkg6 bmU
 clear hw0 hZ0 bmR0 bmU0 hs2 HU1 HU2
 go_enter Tryz.func34, Tryz.ntmps34
 go_upto_region 1 with fail
 rw [← HW0.out]
 go_region_with (first | (go_at_call 79; first | ((with_reducible refine (HC1.out _ hU1).mono ?_); rintro e wa ⟨v1, rfl, hP1, hC1⟩; have hF1 := hP1.fresh.mono (show w.heap.size + 2 ≤ _ from HS2.out ▸ hZ.size); obtain ⟨a1, d1, rfl, _, _⟩ := hP1.read.form; have R1 := hP1.read; have hZ := hZ.trans (hC1.mono hZ.size); clear hP1; obtain ⟨bmR, bmU, hBB, hU1, hU2⟩ := HX.out _ hZ; obtain ⟨p0, p1, p2, p3, p4, p5, q0, q1, q2, q3, q4, q5, zR⟩ := blkg6 bmR; obtain ⟨m0, m1, m2, m3, m4, m5, f0, f1, f2, f3, f4, f5, zU⟩ := blkg6 bmU) | ((with_reducible refine (HC2.out _ hU2).mono ?_); rintro e wb ⟨v2, rfl, hP2, hC2⟩; have hF2 := hP2.fresh.mono (show w.heap.size + 2 ≤ _ from HS2.out ▸ hZ.size); obtain ⟨a2, d2, rfl, _, _⟩ := hP2.read.form; have R2 := hP2.read; have R1 := R1.below hC2 (ρ _); have hZ := hZ.trans (hC2.mono hZ.size); clear hP2; obtain ⟨bmR, bmU, hBB, hU1, hU2⟩ := HX.out _ hZ; obtain ⟨p0, p1, p2, p3, p4, p5, q0, q1, q2, q3, q4, q5, zR⟩ := blkg6 bmR; obtain ⟨m0, m1, m2, m3, m4, m5, f0, f1, f2, f3, f4, f5, zU⟩ := blkg6 bmU)))
 all_goals
  go_wp2
  refine bodyPost_ret (v := .agg #[.string S, .string U, .string H, .int .i64 n, .slice a1 F.length d1, .slice a2 G.length d2]) (by simp [results, Tryz.results34, go_sem, m0, m1, m2, m3, m4, m5]) rfl ?_
  exact ⟨_, _, rfl, (RPrms.set (RPrms.set (RPrms.set (RPrms.set (RPrms.set (RPrms.set (RPrms.set (RPrms.set R1 hF1 (p := ⟨w.heap.size, 4, none⟩) (show w.heap.size < w.heap.size + 2 by omega) _) hF1 (p := ⟨w.heap.size, 5, none⟩) (show w.heap.size < w.heap.size + 2 by omega) _) hF1 (p := ⟨w.heap.size + 1, 0, none⟩) (show w.heap.size + 1 < w.heap.size + 2 by omega) _) hF1 (p := ⟨w.heap.size + 1, 1, none⟩) (show w.heap.size + 1 < w.heap.size + 2 by omega) _) hF1 (p := ⟨w.heap.size + 1, 2, none⟩) (show w.heap.size + 1 < w.heap.size + 2 by omega) _) hF1 (p := ⟨w.heap.size + 1, 3, none⟩) (show w.heap.size + 1 < w.heap.size + 2 by omega) _) hF1 (p := ⟨w.heap.size + 1, 4, none⟩) (show w.heap.size + 1 < w.heap.size + 2 by omega) _) hF1 (p := ⟨w.heap.size + 1, 5, none⟩) (show w.heap.size + 1 < w.heap.size + 2 by omega) _), (RPrms.set (RPrms.set (RPrms.set (RPrms.set (RPrms.set (RPrms.set (RPrms.set (RPrms.set R2 hF2 (p := ⟨w.heap.size, 4, none⟩) (show w.heap.size < w.heap.size + 2 by omega) _) hF2 (p := ⟨w.heap.size, 5, none⟩) (show w.heap.size < w.heap.size + 2 by omega) _) hF2 (p := ⟨w.heap.size + 1, 0, none⟩) (show w.heap.size + 1 < w.heap.size + 2 by omega) _) hF2 (p := ⟨w.heap.size + 1, 1, none⟩) (show w.heap.size + 1 < w.heap.size + 2 by omega) _) hF2 (p := ⟨w.heap.size + 1, 2, none⟩) (show w.heap.size + 1 < w.heap.size + 2 by omega) _) hF2 (p := ⟨w.heap.size + 1, 3, none⟩) (show w.heap.size + 1 < w.heap.size + 2 by omega) _) hF2 (p := ⟨w.heap.size + 1, 4, none⟩) (show w.heap.size + 1 < w.heap.size + 2 by omega) _) hF2 (p := ⟨w.heap.size + 1, 5, none⟩) (show w.heap.size + 1 < w.heap.size + 2 by omega) _), hF1.mono (by omega), hF2.mono (by omega), ((((((((hBB.setCell (ρ _) _).setCell (ρ _) _).setCell (Nat.le_succ _) _).setCell (Nat.le_succ _) _).setCell (Nat.le_succ _) _).setCell (Nat.le_succ _) _).setCell (Nat.le_succ _) _).setCell (Nat.le_succ _) _)⟩
set_option maxHeartbeats 6400000 in
theorem own_c (D S U H : ByteArray) (n : Int) (u1 u2 u3 : Value) (F G P : List Prm) (w : World) (h1 : RPrms w u1 F) (h2 : RPrms w u2 G) (h3 : RPrms w u3 P) (l1 : F.length ≤ 1099511627776) (l2 : G.length ≤ 1099511627776) (l3 : P.length ≤ 1099511627776) :
  Calls Tryz.prog 33 #[.agg #[.string D, .string S, .string U, .string H, .int .i64 n, u1, u2, u3]] w fun e w' => ∃ v1 v2 v3, e = .returned (.agg #[.string D, .string S, .string U, .string H, .int .i64 n, v1, v2, v3]) ∧ RPrms w' v1 F ∧ RPrms w' v2 G ∧ RPrms w' v3 P ∧ Fresh w.heap.size v1 ∧ Fresh w.heap.size v2 ∧ Fresh w.heap.size v3 ∧ Below w.heap.size w w' := by
 have HU1 := κ h1
 have HU2 := κ h2
 have HU3 := κ h3
 obtain ⟨ao, ac, rfl, _, _⟩ := h1.form
 obtain ⟨bo, bc, rfl, _, _⟩ := h2.form
 obtain ⟨co, cc, rfl, _, _⟩ := h3.form
 have HCL := κ (fun wx hx hy => cloned_c S U H n (.slice ao F.length ac) (.slice bo G.length bc) F G wx hx hy l1 l2)
 have HC3 := κ (fun wx hx => cloneP_c (.slice co P.length cc) P wx hx l3)
 have HU3X := κ h3
 clear h1 h2 h3
 have hZ0 : Below w.heap.size w ((w.alloc (.cells #[.string D, .string S, .string U, .string H, .int .i64 n, .slice ao F.length ac, .slice bo G.length bc, .slice co P.length cc] 26)).alloc (.cells #[.string ⟨#[]⟩, .string ⟨#[]⟩, .string ⟨#[]⟩, .string ⟨#[]⟩, .int .i64 0, .slice none 0 0, .slice none 0 0, .slice none 0 0] 26)) := ((Below.refl _ _).alloc (ρ _) _).alloc (by rw [World.size_alloc]; omega) _
 have bmR0 : Blk ((w.alloc (.cells #[.string D, .string S, .string U, .string H, .int .i64 n, .slice ao F.length ac, .slice bo G.length bc, .slice co P.length cc] 26)).alloc (.cells #[.string ⟨#[]⟩, .string ⟨#[]⟩, .string ⟨#[]⟩, .string ⟨#[]⟩, .int .i64 0, .slice none 0 0, .slice none 0 0, .slice none 0 0] 26)) w.heap.size 26 #[.string D, .string S, .string U, .string H, .int .i64 n, .slice ao F.length ac, .slice bo G.length bc, .slice co P.length cc] := (Blk.new w 26 #[.string D, .string S, .string U, .string H, .int .i64 n, .slice ao F.length ac, .slice bo G.length bc, .slice co P.length cc]).alloc _
 have bmU0 : Blk ((w.alloc (.cells #[.string D, .string S, .string U, .string H, .int .i64 n, .slice ao F.length ac, .slice bo G.length bc, .slice co P.length cc] 26)).alloc (.cells #[.string ⟨#[]⟩, .string ⟨#[]⟩, .string ⟨#[]⟩, .string ⟨#[]⟩, .int .i64 0, .slice none 0 0, .slice none 0 0, .slice none 0 0] 26)) (w.heap.size + 1) 26 #[.string ⟨#[]⟩, .string ⟨#[]⟩, .string ⟨#[]⟩, .string ⟨#[]⟩, .int .i64 0, .slice none 0 0, .slice none 0 0, .slice none 0 0] := by
  have := Blk.new (w.alloc (.cells #[.string D, .string S, .string U, .string H, .int .i64 n, .slice ao F.length ac, .slice bo G.length bc, .slice co P.length cc] 26)) 26 #[.string ⟨#[]⟩, .string ⟨#[]⟩, .string ⟨#[]⟩, .string ⟨#[]⟩, .int .i64 0, .slice none 0 0, .slice none 0 0, .slice none 0 0]
  rwa [World.size_alloc] at this
 have hs2 : ((w.alloc (.cells #[.string D, .string S, .string U, .string H, .int .i64 n, .slice ao F.length ac, .slice bo G.length bc, .slice co P.length cc] 26)).alloc (.cells #[.string ⟨#[]⟩, .string ⟨#[]⟩, .string ⟨#[]⟩, .string ⟨#[]⟩, .int .i64 0, .slice none 0 0, .slice none 0 0, .slice none 0 0] 26)).heap.size = w.heap.size + 2 := by rw [World.size_alloc, World.size_alloc]
 obtain ⟨w0, hw0⟩ : ∃ w0, w0 = ((w.alloc (.cells #[.string D, .string S, .string U, .string H, .int .i64 n, .slice ao F.length ac, .slice bo G.length bc, .slice co P.length cc] 26)).alloc (.cells #[.string ⟨#[]⟩, .string ⟨#[]⟩, .string ⟨#[]⟩, .string ⟨#[]⟩, .int .i64 0, .slice none 0 0, .slice none 0 0, .slice none 0 0] 26)) := ⟨_, rfl⟩
 rw [← hw0] at hZ0 bmR0 bmU0 hs2
 have HX := κ (fun (wx : World) (h : Below w0.heap.size w0 wx) => (show Blk wx w.heap.size 26 #[.string D, .string S, .string U, .string H, .int .i64 n, .slice ao F.length ac, .slice bo G.length bc, .slice co P.length cc] ∧ Blk wx (w.heap.size + 1) 26 #[.string ⟨#[]⟩, .string ⟨#[]⟩, .string ⟨#[]⟩, .string ⟨#[]⟩, .int .i64 0, .slice none 0 0, .slice none 0 0, .slice none 0 0] ∧ Below w.heap.size w wx ∧ RPrms wx (.slice ao F.length ac) F ∧ RPrms wx (.slice bo G.length bc) G ∧ RPrms wx (.slice co P.length cc) P from by
  have hx := hZ0.trans (h.mono hZ0.size)
  exact ⟨bmR0.call h, bmU0.call h, hx, HU1.out.below hx (ρ _), HU2.out.below hx (ρ _), HU3.out.below hx (ρ _)⟩))
 have HW0 := κ hw0
 have HS2 := κ hs2
 have hZ : Below w0.heap.size w0 w0.drew := (Below.refl _ _).drew
 obtain ⟨bmR, bmU, hBB, hU1, hU2, hU3⟩ := HX.out _ hZ
 obtain ⟨p0, p1, p2, p3, p4, p5, p6, p7, q0, q1, q2, q3, q4, q5, q6, q7, zR⟩ := blkg8 bmR
 obtain ⟨m0, m1, m2, m3, m4, m5, m6, m7, f0, f1, f2, f3, f4, f5, f6, f7, zU⟩ := blkg8 bmU
 clear hw0 hZ0 bmR0 bmU0 hs2 HU1 HU2 HU3
 go_enter Tryz.func33, Tryz.ntmps33
 go_upto_region 1 with fail
 rw [← HW0.out]
 go_region_with (first | (go_at_call 34; (with_reducible refine (HCL.out _ hU1 hU2).mono ?_); rintro e wa ⟨v1, v2, rfl, R1, R2, hF1, hF2, hC1⟩; have hF1 := hF1.mono (show w.heap.size + 2 ≤ _ from HS2.out ▸ hZ.size); have hF2 := hF2.mono (show w.heap.size + 2 ≤ _ from HS2.out ▸ hZ.size); obtain ⟨a1, d1, rfl, _, _⟩ := R1.form; obtain ⟨a2, d2, rfl, _, _⟩ := R2.form; have hZ := hZ.trans (hC1.mono hZ.size); obtain ⟨bmR, bmU, hBB, hU1, hU2, hU3⟩ := HX.out _ hZ; obtain ⟨p0, p1, p2, p3, p4, p5, p6, p7, q0, q1, q2, q3, q4, q5, q6, q7, zR⟩ := blkg8 bmR; obtain ⟨m0, m1, m2, m3, m4, m5, m6, m7, f0, f1, f2, f3, f4, f5, f6, f7, zU⟩ := blkg8 bmU) | (go_at_call 79; (with_reducible refine (HC3.out _ hU3).mono ?_); rintro e wb ⟨v3, rfl, hP3, hC3⟩; have hF3 := hP3.fresh.mono (show w.heap.size + 2 ≤ _ from HS2.out ▸ hZ.size); obtain ⟨a3, d3, rfl, _, _⟩ := hP3.read.form; have R3 := hP3.read; have R1 := R1.below hC3 (ρ _); have R2 := R2.below hC3 (ρ _); have hZ := hZ.trans (hC3.mono hZ.size); clear hP3; obtain ⟨bmR, bmU, hBB, hU1, hU2, hU3⟩ := HX.out _ hZ; obtain ⟨p0, p1, p2, p3, p4, p5, p6, p7, q0, q1, q2, q3, q4, q5, q6, q7, zR⟩ := blkg8 bmR; obtain ⟨m0, m1, m2, m3, m4, m5, m6, m7, f0, f1, f2, f3, f4, f5, f6, f7, zU⟩ := blkg8 bmU))
 all_goals
  go_wp2
  refine bodyPost_ret (v := .agg #[.string D, .string S, .string U, .string H, .int .i64 n, .slice a1 F.length d1, .slice a2 G.length d2, .slice a3 P.length d3]) (by simp [results, Tryz.results33, go_sem, m0, m1, m2, m3, m4, m5, m6, m7]) rfl ?_
  exact ⟨_, _, _, rfl, (RPrms.set (RPrms.set (RPrms.set (RPrms.set (RPrms.set (RPrms.set (RPrms.set (RPrms.set (RPrms.set (RPrms.set (RPrms.set (RPrms.set (RPrms.set (RPrms.set (RPrms.set R1 hF1 (p := ⟨w.heap.size, 1, none⟩) (show w.heap.size < w.heap.size + 2 by omega) _) hF1 (p := ⟨w.heap.size, 2, none⟩) (show w.heap.size < w.heap.size + 2 by omega) _) hF1 (p := ⟨w.heap.size, 3, none⟩) (show w.heap.size < w.heap.size + 2 by omega) _) hF1 (p := ⟨w.heap.size, 4, none⟩) (show w.heap.size < w.heap.size + 2 by omega) _) hF1 (p := ⟨w.heap.size, 5, none⟩) (show w.heap.size < w.heap.size + 2 by omega) _) hF1 (p := ⟨w.heap.size, 6, none⟩) (show w.heap.size < w.heap.size + 2 by omega) _) hF1 (p := ⟨w.heap.size, 7, none⟩) (show w.heap.size < w.heap.size + 2 by omega) _) hF1 (p := ⟨w.heap.size + 1, 0, none⟩) (show w.heap.size + 1 < w.heap.size + 2 by omega) _) hF1 (p := ⟨w.heap.size + 1, 1, none⟩) (show w.heap.size + 1 < w.heap.size + 2 by omega) _) hF1 (p := ⟨w.heap.size + 1, 2, none⟩) (show w.heap.size + 1 < w.heap.size + 2 by omega) _) hF1 (p := ⟨w.heap.size + 1, 3, none⟩) (show w.heap.size + 1 < w.heap.size + 2 by omega) _) hF1 (p := ⟨w.heap.size + 1, 4, none⟩) (show w.heap.size + 1 < w.heap.size + 2 by omega) _) hF1 (p := ⟨w.heap.size + 1, 5, none⟩) (show w.heap.size + 1 < w.heap.size + 2 by omega) _) hF1 (p := ⟨w.heap.size + 1, 6, none⟩) (show w.heap.size + 1 < w.heap.size + 2 by omega) _) hF1 (p := ⟨w.heap.size + 1, 7, none⟩) (show w.heap.size + 1 < w.heap.size + 2 by omega) _), (RPrms.set (RPrms.set (RPrms.set (RPrms.set (RPrms.set (RPrms.set (RPrms.set (RPrms.set (RPrms.set (RPrms.set (RPrms.set (RPrms.set (RPrms.set (RPrms.set (RPrms.set R2 hF2 (p := ⟨w.heap.size, 1, none⟩) (show w.heap.size < w.heap.size + 2 by omega) _) hF2 (p := ⟨w.heap.size, 2, none⟩) (show w.heap.size < w.heap.size + 2 by omega) _) hF2 (p := ⟨w.heap.size, 3, none⟩) (show w.heap.size < w.heap.size + 2 by omega) _) hF2 (p := ⟨w.heap.size, 4, none⟩) (show w.heap.size < w.heap.size + 2 by omega) _) hF2 (p := ⟨w.heap.size, 5, none⟩) (show w.heap.size < w.heap.size + 2 by omega) _) hF2 (p := ⟨w.heap.size, 6, none⟩) (show w.heap.size < w.heap.size + 2 by omega) _) hF2 (p := ⟨w.heap.size, 7, none⟩) (show w.heap.size < w.heap.size + 2 by omega) _) hF2 (p := ⟨w.heap.size + 1, 0, none⟩) (show w.heap.size + 1 < w.heap.size + 2 by omega) _) hF2 (p := ⟨w.heap.size + 1, 1, none⟩) (show w.heap.size + 1 < w.heap.size + 2 by omega) _) hF2 (p := ⟨w.heap.size + 1, 2, none⟩) (show w.heap.size + 1 < w.heap.size + 2 by omega) _) hF2 (p := ⟨w.heap.size + 1, 3, none⟩) (show w.heap.size + 1 < w.heap.size + 2 by omega) _) hF2 (p := ⟨w.heap.size + 1, 4, none⟩) (show w.heap.size + 1 < w.heap.size + 2 by omega) _) hF2 (p := ⟨w.heap.size + 1, 5, none⟩) (show w.heap.size + 1 < w.heap.size + 2 by omega) _) hF2 (p := ⟨w.heap.size + 1, 6, none⟩) (show w.heap.size + 1 < w.heap.size + 2 by omega) _) hF2 (p := ⟨w.heap.size + 1, 7, none⟩) (show w.heap.size + 1 < w.heap.size + 2 by omega) _), (RPrms.set (RPrms.set (RPrms.set (RPrms.set (RPrms.set (RPrms.set (RPrms.set (RPrms.set (RPrms.set (RPrms.set (RPrms.set (RPrms.set (RPrms.set (RPrms.set (RPrms.set R3 hF3 (p := ⟨w.heap.size, 1, none⟩) (show w.heap.size < w.heap.size + 2 by omega) _) hF3 (p := ⟨w.heap.size, 2, none⟩) (show w.heap.size < w.heap.size + 2 by omega) _) hF3 (p := ⟨w.heap.size, 3, none⟩) (show w.heap.size < w.heap.size + 2 by omega) _) hF3 (p := ⟨w.heap.size, 4, none⟩) (show w.heap.size < w.heap.size + 2 by omega) _) hF3 (p := ⟨w.heap.size, 5, none⟩) (show w.heap.size < w.heap.size + 2 by omega) _) hF3 (p := ⟨w.heap.size, 6, none⟩) (show w.heap.size < w.heap.size + 2 by omega) _) hF3 (p := ⟨w.heap.size, 7, none⟩) (show w.heap.size < w.heap.size + 2 by omega) _) hF3 (p := ⟨w.heap.size + 1, 0, none⟩) (show w.heap.size + 1 < w.heap.size + 2 by omega) _) hF3 (p := ⟨w.heap.size + 1, 1, none⟩) (show w.heap.size + 1 < w.heap.size + 2 by omega) _) hF3 (p := ⟨w.heap.size + 1, 2, none⟩) (show w.heap.size + 1 < w.heap.size + 2 by omega) _) hF3 (p := ⟨w.heap.size + 1, 3, none⟩) (show w.heap.size + 1 < w.heap.size + 2 by omega) _) hF3 (p := ⟨w.heap.size + 1, 4, none⟩) (show w.heap.size + 1 < w.heap.size + 2 by omega) _) hF3 (p := ⟨w.heap.size + 1, 5, none⟩) (show w.heap.size + 1 < w.heap.size + 2 by omega) _) hF3 (p := ⟨w.heap.size + 1, 6, none⟩) (show w.heap.size + 1 < w.heap.size + 2 by omega) _) hF3 (p := ⟨w.heap.size + 1, 7, none⟩) (show w.heap.size + 1 < w.heap.size + 2 by omega) _), hF1.mono (by omega), hF2.mono (by omega), hF3.mono (by omega), (((((((((((((((hBB.setCell (ρ _) _).setCell (ρ _) _).setCell (ρ _) _).setCell (ρ _) _).setCell (ρ _) _).setCell (ρ _) _).setCell (ρ _) _).setCell (Nat.le_succ _) _).setCell (Nat.le_succ _) _).setCell (Nat.le_succ _) _).setCell (Nat.le_succ _) _).setCell (Nat.le_succ _) _).setCell (Nat.le_succ _) _).setCell (Nat.le_succ _) _).setCell (Nat.le_succ _) _)⟩
set_option maxHeartbeats 6400000 in
theorem tagged_c (D S U H : ByteArray) (n : Int) (u1 u2 u3 : Value) (F G P : List Prm) (T : ByteArray) (w : World) (h1 : RPrms w u1 F) (h2 : RPrms w u2 G) (h3 : RPrms w u3 P) (l1 : F.length ≤ 1099511627776) (l2 : G.length ≤ 1099511627776) (l3 : P.length ≤ 1099511627776) :
  Calls Tryz.prog 32 #[.agg #[.string D, .string S, .string U, .string H, .int .i64 n, u1, u2, u3], .string T] w fun e w' => ∃ v1 v2 v3, e = .returned (.agg #[.string D, .string S, .string U, .string H, .int .i64 n, v1, v2, v3]) ∧ RPrms w' v1 F ∧ RPrms w' v2 G ∧ RPrms w' v3 (P ++ [⟨nTag, us T, true⟩]) ∧ Fresh w.heap.size v1 ∧ Fresh w.heap.size v2 ∧ Fresh w.heap.size v3 ∧ Below w.heap.size w w' := by
 have HU1 := κ h1
 have HU2 := κ h2
 have HU3 := κ h3
 obtain ⟨ao, ac, rfl, _, _⟩ := h1.form
 obtain ⟨bo, bc, rfl, _, _⟩ := h2.form
 obtain ⟨co, cc, rfl, _, _⟩ := h3.form
 have HCL := κ (fun wx hx hy => cloned_c S U H n (.slice ao F.length ac) (.slice bo G.length bc) F G wx hx hy l1 l2)
 have HC3 := κ (fun wx hx => cloneP_c (.slice co P.length cc) P wx hx l3)
 have HU3X := κ h3
 clear h1 h2 h3
 have hZ0 : Below w.heap.size w ((w.alloc (.cells #[.string D, .string S, .string U, .string H, .int .i64 n, .slice ao F.length ac, .slice bo G.length bc, .slice co P.length cc] 26)).alloc (.cells #[.string ⟨#[]⟩, .string ⟨#[]⟩, .string ⟨#[]⟩, .string ⟨#[]⟩, .int .i64 0, .slice none 0 0, .slice none 0 0, .slice none 0 0] 26)) := ((Below.refl _ _).alloc (ρ _) _).alloc (by rw [World.size_alloc]; omega) _
 have bmR0 : Blk ((w.alloc (.cells #[.string D, .string S, .string U, .string H, .int .i64 n, .slice ao F.length ac, .slice bo G.length bc, .slice co P.length cc] 26)).alloc (.cells #[.string ⟨#[]⟩, .string ⟨#[]⟩, .string ⟨#[]⟩, .string ⟨#[]⟩, .int .i64 0, .slice none 0 0, .slice none 0 0, .slice none 0 0] 26)) w.heap.size 26 #[.string D, .string S, .string U, .string H, .int .i64 n, .slice ao F.length ac, .slice bo G.length bc, .slice co P.length cc] := (Blk.new w 26 #[.string D, .string S, .string U, .string H, .int .i64 n, .slice ao F.length ac, .slice bo G.length bc, .slice co P.length cc]).alloc _
 have bmU0 : Blk ((w.alloc (.cells #[.string D, .string S, .string U, .string H, .int .i64 n, .slice ao F.length ac, .slice bo G.length bc, .slice co P.length cc] 26)).alloc (.cells #[.string ⟨#[]⟩, .string ⟨#[]⟩, .string ⟨#[]⟩, .string ⟨#[]⟩, .int .i64 0, .slice none 0 0, .slice none 0 0, .slice none 0 0] 26)) (w.heap.size + 1) 26 #[.string ⟨#[]⟩, .string ⟨#[]⟩, .string ⟨#[]⟩, .string ⟨#[]⟩, .int .i64 0, .slice none 0 0, .slice none 0 0, .slice none 0 0] := by
  have := Blk.new (w.alloc (.cells #[.string D, .string S, .string U, .string H, .int .i64 n, .slice ao F.length ac, .slice bo G.length bc, .slice co P.length cc] 26)) 26 #[.string ⟨#[]⟩, .string ⟨#[]⟩, .string ⟨#[]⟩, .string ⟨#[]⟩, .int .i64 0, .slice none 0 0, .slice none 0 0, .slice none 0 0]
  rwa [World.size_alloc] at this
 have hs2 : ((w.alloc (.cells #[.string D, .string S, .string U, .string H, .int .i64 n, .slice ao F.length ac, .slice bo G.length bc, .slice co P.length cc] 26)).alloc (.cells #[.string ⟨#[]⟩, .string ⟨#[]⟩, .string ⟨#[]⟩, .string ⟨#[]⟩, .int .i64 0, .slice none 0 0, .slice none 0 0, .slice none 0 0] 26)).heap.size = w.heap.size + 2 := by rw [World.size_alloc, World.size_alloc]
 obtain ⟨w0, hw0⟩ : ∃ w0, w0 = ((w.alloc (.cells #[.string D, .string S, .string U, .string H, .int .i64 n, .slice ao F.length ac, .slice bo G.length bc, .slice co P.length cc] 26)).alloc (.cells #[.string ⟨#[]⟩, .string ⟨#[]⟩, .string ⟨#[]⟩, .string ⟨#[]⟩, .int .i64 0, .slice none 0 0, .slice none 0 0, .slice none 0 0] 26)) := ⟨_, rfl⟩
 rw [← hw0] at hZ0 bmR0 bmU0 hs2
 have HX := κ (fun (wx : World) (h : Below w0.heap.size w0 wx) => (show Blk wx w.heap.size 26 #[.string D, .string S, .string U, .string H, .int .i64 n, .slice ao F.length ac, .slice bo G.length bc, .slice co P.length cc] ∧ Blk wx (w.heap.size + 1) 26 #[.string ⟨#[]⟩, .string ⟨#[]⟩, .string ⟨#[]⟩, .string ⟨#[]⟩, .int .i64 0, .slice none 0 0, .slice none 0 0, .slice none 0 0] ∧ Below w.heap.size w wx ∧ RPrms wx (.slice ao F.length ac) F ∧ RPrms wx (.slice bo G.length bc) G ∧ RPrms wx (.slice co P.length cc) P from by
  have hx := hZ0.trans (h.mono hZ0.size)
  exact ⟨bmR0.call h, bmU0.call h, hx, HU1.out.below hx (ρ _), HU2.out.below hx (ρ _), HU3.out.below hx (ρ _)⟩))
 have HW0 := κ hw0
 have HS2 := κ hs2
 have hZ : Below w0.heap.size w0 w0 := Below.refl _ _
 obtain ⟨bmR, bmU, hBB, hU1, hU2, hU3⟩ := HX.out _ hZ
 obtain ⟨p0, p1, p2, p3, p4, p5, p6, p7, q0, q1, q2, q3, q4, q5, q6, q7, zR⟩ := blkg8 bmR
 obtain ⟨m0, m1, m2, m3, m4, m5, m6, m7, f0, f1, f2, f3, f4, f5, f6, f7, zU⟩ := blkg8 bmU
 clear hw0 hZ0 bmR0 bmU0 hs2 HU1 HU2 HU3
 go_enter Tryz.func32, Tryz.ntmps32
 go_upto_region 2 with (go_at_call 34; rw [← HW0.out]; (refine (HCL.out _ hU1 hU2).mono ?_); rintro e wa ⟨v1, v2, rfl, R1, R2, hF1, hF2, hC1⟩; have hF1 := hF1.mono (show w.heap.size + 2 ≤ _ from HS2.out ▸ hZ.size); have hF2 := hF2.mono (show w.heap.size + 2 ≤ _ from HS2.out ▸ hZ.size); obtain ⟨a1, d1, rfl, _, _⟩ := R1.form; obtain ⟨a2, d2, rfl, _, _⟩ := R2.form; have hZ := hZ.trans (hC1.mono hZ.size); obtain ⟨bmR, bmU, hBB, hU1, hU2, hU3⟩ := HX.out _ hZ; obtain ⟨p0, p1, p2, p3, p4, p5, p6, p7, q0, q1, q2, q3, q4, q5, q6, q7, zR⟩ := blkg8 bmR; obtain ⟨m0, m1, m2, m3, m4, m5, m6, m7, f0, f1, f2, f3, f4, f5, f6, f7, zU⟩ := blkg8 bmU)
 replace hBB := hBB.setCell (p := ⟨w.heap.size, 1, none⟩) (ρ _) (.string S)
 replace bmR : Blk _ w.heap.size 26 #[(.string D), (.string S), (.string U), (.string H), (.int .i64 n), (.slice ao F.length ac), (.slice bo G.length bc), (.slice co P.length cc)] := bmR.set_ 1 (.string S)
 replace bmU := bmU.far (p := ⟨w.heap.size, 1, none⟩) (show w.heap.size + 1 ≠ w.heap.size by omega) (.string S)
 replace R1 := R1.set hF1 (p := ⟨w.heap.size, 1, none⟩) (show w.heap.size < w.heap.size + 2 by omega) (.string S)
 replace R2 := R2.set hF2 (p := ⟨w.heap.size, 1, none⟩) (show w.heap.size < w.heap.size + 2 by omega) (.string S)
 replace hBB := hBB.setCell (p := ⟨w.heap.size, 2, none⟩) (ρ _) (.string U)
 replace bmR : Blk _ w.heap.size 26 #[(.string D), (.string S), (.string U), (.string H), (.int .i64 n), (.slice ao F.length ac), (.slice bo G.length bc), (.slice co P.length cc)] := bmR.set_ 2 (.string U)
 replace bmU := bmU.far (p := ⟨w.heap.size, 2, none⟩) (show w.heap.size + 1 ≠ w.heap.size by omega) (.string U)
 replace R1 := R1.set hF1 (p := ⟨w.heap.size, 2, none⟩) (show w.heap.size < w.heap.size + 2 by omega) (.string U)
 replace R2 := R2.set hF2 (p := ⟨w.heap.size, 2, none⟩) (show w.heap.size < w.heap.size + 2 by omega) (.string U)
 replace hBB := hBB.setCell (p := ⟨w.heap.size, 3, none⟩) (ρ _) (.string H)
 replace bmR : Blk _ w.heap.size 26 #[(.string D), (.string S), (.string U), (.string H), (.int .i64 n), (.slice ao F.length ac), (.slice bo G.length bc), (.slice co P.length cc)] := bmR.set_ 3 (.string H)
 replace bmU := bmU.far (p := ⟨w.heap.size, 3, none⟩) (show w.heap.size + 1 ≠ w.heap.size by omega) (.string H)
 replace R1 := R1.set hF1 (p := ⟨w.heap.size, 3, none⟩) (show w.heap.size < w.heap.size + 2 by omega) (.string H)
 replace R2 := R2.set hF2 (p := ⟨w.heap.size, 3, none⟩) (show w.heap.size < w.heap.size + 2 by omega) (.string H)
 replace hBB := hBB.setCell (p := ⟨w.heap.size, 4, none⟩) (ρ _) (.int .i64 n)
 replace bmR : Blk _ w.heap.size 26 #[(.string D), (.string S), (.string U), (.string H), (.int .i64 n), (.slice ao F.length ac), (.slice bo G.length bc), (.slice co P.length cc)] := bmR.set_ 4 (.int .i64 n)
 replace bmU := bmU.far (p := ⟨w.heap.size, 4, none⟩) (show w.heap.size + 1 ≠ w.heap.size by omega) (.int .i64 n)
 replace R1 := R1.set hF1 (p := ⟨w.heap.size, 4, none⟩) (show w.heap.size < w.heap.size + 2 by omega) (.int .i64 n)
 replace R2 := R2.set hF2 (p := ⟨w.heap.size, 4, none⟩) (show w.heap.size < w.heap.size + 2 by omega) (.int .i64 n)
 replace hBB := hBB.setCell (p := ⟨w.heap.size, 5, none⟩) (ρ _) (.slice a1 F.length d1)
 replace bmR : Blk _ w.heap.size 26 #[(.string D), (.string S), (.string U), (.string H), (.int .i64 n), (.slice a1 F.length d1), (.slice bo G.length bc), (.slice co P.length cc)] := bmR.set_ 5 (.slice a1 F.length d1)
 replace bmU := bmU.far (p := ⟨w.heap.size, 5, none⟩) (show w.heap.size + 1 ≠ w.heap.size by omega) (.slice a1 F.length d1)
 replace R1 := R1.set hF1 (p := ⟨w.heap.size, 5, none⟩) (show w.heap.size < w.heap.size + 2 by omega) (.slice a1 F.length d1)
 replace R2 := R2.set hF2 (p := ⟨w.heap.size, 5, none⟩) (show w.heap.size < w.heap.size + 2 by omega) (.slice a1 F.length d1)
 replace hBB := hBB.setCell (p := ⟨w.heap.size, 6, none⟩) (ρ _) (.slice a2 G.length d2)
 replace bmR : Blk _ w.heap.size 26 #[(.string D), (.string S), (.string U), (.string H), (.int .i64 n), (.slice a1 F.length d1), (.slice a2 G.length d2), (.slice co P.length cc)] := bmR.set_ 6 (.slice a2 G.length d2)
 replace bmU := bmU.far (p := ⟨w.heap.size, 6, none⟩) (show w.heap.size + 1 ≠ w.heap.size by omega) (.slice a2 G.length d2)
 replace R1 := R1.set hF1 (p := ⟨w.heap.size, 6, none⟩) (show w.heap.size < w.heap.size + 2 by omega) (.slice a2 G.length d2)
 replace R2 := R2.set hF2 (p := ⟨w.heap.size, 6, none⟩) (show w.heap.size < w.heap.size + 2 by omega) (.slice a2 G.length d2)
 obtain ⟨w2, e2⟩ : ∃ x, x = ((((((wa.setCell ⟨w.heap.size, 1, none⟩ (.string S)).setCell ⟨w.heap.size, 2, none⟩ (.string U)).setCell ⟨w.heap.size, 3, none⟩ (.string H)).setCell ⟨w.heap.size, 4, none⟩ (.int .i64 n)).setCell ⟨w.heap.size, 5, none⟩ (.slice a1 F.length d1)).setCell ⟨w.heap.size, 6, none⟩ (.slice a2 G.length d2)) := ⟨_, rfl⟩
 rw [← e2] at hBB bmR bmU R1 R2
 have hU3 : RPrms w2 (.slice co P.length cc) P := by
  rw [e2]
  have hx : Below w.heap.size w ((((((wa.setCell ⟨w.heap.size, 1, none⟩ (.string S)).setCell ⟨w.heap.size, 2, none⟩ (.string U)).setCell ⟨w.heap.size, 3, none⟩ (.string H)).setCell ⟨w.heap.size, 4, none⟩ (.int .i64 n)).setCell ⟨w.heap.size, 5, none⟩ (.slice a1 F.length d1)).setCell ⟨w.heap.size, 6, none⟩ (.slice a2 G.length d2)) := by rw [← e2]; exact hBB
  exact HU3X.out.below hx (ρ _)
 have ZW := κ (show w.heap.size + 2 ≤ w2.heap.size by have := hZ.size; rw [e2]; simp only [World.size_setCell]; rw [← HS2.out]; exact this)
 simp only [← e2]
 clear e2
 have HBM := κ bmR
 have HBU := κ bmU
 have HBBx := κ hBB
 have HR1 := κ R1
 have HR2 := κ R2
 have HY := κ (fun (wx : World) (h : Below w2.heap.size w2 wx) => (show Blk wx w.heap.size 26 #[.string D, .string S, .string U, .string H, .int .i64 n, .slice a1 F.length d1, .slice a2 G.length d2, .slice co P.length cc] ∧ Blk wx (w.heap.size + 1) 26 #[.string ⟨#[]⟩, .string ⟨#[]⟩, .string ⟨#[]⟩, .string ⟨#[]⟩, .int .i64 0, .slice none 0 0, .slice none 0 0, .slice none 0 0] ∧ Below w.heap.size w wx ∧ RPrms wx (.slice a1 F.length d1) F ∧ RPrms wx (.slice a2 G.length d2) G from
  ⟨HBM.out.call h, HBU.out.call h, HBBx.out.trans (h.mono HBBx.out.size), HR1.out.below h (ρ _), HR2.out.below h (ρ _)⟩))
 have hY : Below w2.heap.size w2 w2 := Below.refl _ _
 clear bmR bmU hBB R1 R2
 obtain ⟨bmR, bmU, hBB, R1, R2⟩ := HY.out _ hY
 obtain ⟨p0, p1, p2, p3, p4, p5, p6, p7, q0, q1, q2, q3, q4, q5, q6, q7, zR⟩ := blkg8 bmR
 obtain ⟨m0, m1, m2, m3, m4, m5, m6, m7, f0, f1, f2, f3, f4, f5, f6, f7, zU⟩ := blkg8 bmU
 go_wp2_with (first | (go_at_call 79; refine (HC3.out _ hU3).mono ?_; rintro e wb ⟨v3, rfl, hP3, hC3⟩; have hY := hC3; obtain ⟨bmR, bmU, hBB, R1, R2⟩ := HY.out _ hY; obtain ⟨p0, p1, p2, p3, p4, p5, p6, p7, q0, q1, q2, q3, q4, q5, q6, q7, zR⟩ := blkg8 bmR; obtain ⟨m0, m1, m2, m3, m4, m5, m6, m7, f0, f1, f2, f3, f4, f5, f6, f7, zU⟩ := blkg8 bmU) | (at_builtin; refine wpList_appP1 ⟨nTag, us T, true⟩ rfl rfl rfl rfl rfl Tryz.underlying22 infoP rfl rfl hP3 hC3 (ρ _) ?_ ?_; (focus omega); intro v' w' hP4 hB4; have hY := hB4; have hF3 := hP4.fresh.mono (show w.heap.size + 2 ≤ _ from ZW.out); obtain ⟨a3, d3, rfl, _, _⟩ := hP4.read.form; have R3 := hP4.read; obtain ⟨bmR, bmU, hBB, R1, R2⟩ := HY.out _ hY; obtain ⟨p0, p1, p2, p3, p4, p5, p6, p7, q0, q1, q2, q3, q4, q5, q6, q7, zR⟩ := blkg8 bmR; obtain ⟨m0, m1, m2, m3, m4, m5, m6, m7, f0, f1, f2, f3, f4, f5, f6, f7, zU⟩ := blkg8 bmU))
 refine bodyPost_ret (v := .agg #[.string D, .string S, .string U, .string H, .int .i64 n, .slice a1 F.length d1, .slice a2 G.length d2, .slice a3 (P ++ [(⟨nTag, us T, true⟩ : Prm)]).length d3]) (by simp [results, Tryz.results32, go_sem, m0, m1, m2, m3, m4, m5, m6, m7]) rfl ?_
 exact ⟨_, _, _, rfl, (RPrms.set (RPrms.set (RPrms.set (RPrms.set (RPrms.set (RPrms.set (RPrms.set (RPrms.set (RPrms.set R1 hF1 (p := ⟨w.heap.size, 7, none⟩) (show w.heap.size < w.heap.size + 2 by omega) _) hF1 (p := ⟨w.heap.size + 1, 0, none⟩) (show w.heap.size + 1 < w.heap.size + 2 by omega) _) hF1 (p := ⟨w.heap.size + 1, 1, none⟩) (show w.heap.size + 1 < w.heap.size + 2 by omega) _) hF1 (p := ⟨w.heap.size + 1, 2, none⟩) (show w.heap.size + 1 < w.heap.size + 2 by omega) _) hF1 (p := ⟨w.heap.size + 1, 3, none⟩) (show w.heap.size + 1 < w.heap.size + 2 by omega) _) hF1 (p := ⟨w.heap.size + 1, 4, none⟩) (show w.heap.size + 1 < w.heap.size + 2 by omega) _) hF1 (p := ⟨w.heap.size + 1, 5, none⟩) (show w.heap.size + 1 < w.heap.size + 2 by omega) _) hF1 (p := ⟨w.heap.size + 1, 6, none⟩) (show w.heap.size + 1 < w.heap.size + 2 by omega) _) hF1 (p := ⟨w.heap.size + 1, 7, none⟩) (show w.heap.size + 1 < w.heap.size + 2 by omega) _), (RPrms.set (RPrms.set (RPrms.set (RPrms.set (RPrms.set (RPrms.set (RPrms.set (RPrms.set (RPrms.set R2 hF2 (p := ⟨w.heap.size, 7, none⟩) (show w.heap.size < w.heap.size + 2 by omega) _) hF2 (p := ⟨w.heap.size + 1, 0, none⟩) (show w.heap.size + 1 < w.heap.size + 2 by omega) _) hF2 (p := ⟨w.heap.size + 1, 1, none⟩) (show w.heap.size + 1 < w.heap.size + 2 by omega) _) hF2 (p := ⟨w.heap.size + 1, 2, none⟩) (show w.heap.size + 1 < w.heap.size + 2 by omega) _) hF2 (p := ⟨w.heap.size + 1, 3, none⟩) (show w.heap.size + 1 < w.heap.size + 2 by omega) _) hF2 (p := ⟨w.heap.size + 1, 4, none⟩) (show w.heap.size + 1 < w.heap.size + 2 by omega) _) hF2 (p := ⟨w.heap.size + 1, 5, none⟩) (show w.heap.size + 1 < w.heap.size + 2 by omega) _) hF2 (p := ⟨w.heap.size + 1, 6, none⟩) (show w.heap.size + 1 < w.heap.size + 2 by omega) _) hF2 (p := ⟨w.heap.size + 1, 7, none⟩) (show w.heap.size + 1 < w.heap.size + 2 by omega) _), (RPrms.set (RPrms.set (RPrms.set (RPrms.set (RPrms.set (RPrms.set (RPrms.set (RPrms.set (RPrms.set R3 hF3 (p := ⟨w.heap.size, 7, none⟩) (show w.heap.size < w.heap.size + 2 by omega) _) hF3 (p := ⟨w.heap.size + 1, 0, none⟩) (show w.heap.size + 1 < w.heap.size + 2 by omega) _) hF3 (p := ⟨w.heap.size + 1, 1, none⟩) (show w.heap.size + 1 < w.heap.size + 2 by omega) _) hF3 (p := ⟨w.heap.size + 1, 2, none⟩) (show w.heap.size + 1 < w.heap.size + 2 by omega) _) hF3 (p := ⟨w.heap.size + 1, 3, none⟩) (show w.heap.size + 1 < w.heap.size + 2 by omega) _) hF3 (p := ⟨w.heap.size + 1, 4, none⟩) (show w.heap.size + 1 < w.heap.size + 2 by omega) _) hF3 (p := ⟨w.heap.size + 1, 5, none⟩) (show w.heap.size + 1 < w.heap.size + 2 by omega) _) hF3 (p := ⟨w.heap.size + 1, 6, none⟩) (show w.heap.size + 1 < w.heap.size + 2 by omega) _) hF3 (p := ⟨w.heap.size + 1, 7, none⟩) (show w.heap.size + 1 < w.heap.size + 2 by omega) _), hF1.mono (by omega), hF2.mono (by omega), hF3.mono (by omega), (((((((((hBB.setCell (ρ _) _).setCell (Nat.le_succ _) _).setCell (Nat.le_succ _) _).setCell (Nat.le_succ _) _).setCell (Nat.le_succ _) _).setCell (Nat.le_succ _) _).setCell (Nat.le_succ _) _).setCell (Nat.le_succ _) _).setCell (Nat.le_succ _) _)⟩
theorem RDlg.row {w : World} {v : Value} {d : Dlg} (h : RDlg w v d) : ∃ vs : Array Value, v = .agg vs ∧ vs.size = 26 ∧ (vs.toList.all fun v => v.oneCell') = true ∧ vs[24]? = some (.int .i64 d.lin) ∧ vs[25]? = some (.int .i64 d.lout) ∧ RDlg w (.agg vs) d := by
 have h' := h
 obtain ⟨u1, u2, u3, u4, u5, u6, u7, u8, u9, rfl, h1, h2, h3, h4, h5, h6, h7, h8, h9⟩ := h
 obtain ⟨_, _, rfl, _⟩ := h1.form
 obtain ⟨_, _, rfl, _⟩ := h2.form
 obtain ⟨_, _, rfl, _⟩ := h3.form
 obtain ⟨_, _, rfl, _⟩ := h4.form
 obtain ⟨_, _, rfl, _⟩ := h5.form
 obtain ⟨_, _, rfl, _⟩ := h6.form
 obtain ⟨_, _, rfl, _⟩ := h7.form
 obtain ⟨_, _, rfl, _⟩ := h8.form
 obtain ⟨_, _, rfl, _⟩ := h9.form
 exact ⟨_, rfl, rfl, rfl, rfl, rfl, h'⟩
theorem RDlg.setLin {w : World} {vs : Array Value} {d : Dlg} (h : RDlg w (.agg vs) d) (n : Int) : RDlg w (.agg (vs.setIfInBounds 24 (.int .i64 n))) ⟨d.call, d.loc, d.rem, d.tgt, d.routes, n, d.lout⟩ := by
 obtain ⟨u1, u2, u3, u4, u5, u6, u7, u8, u9, e, h1, h2, h3, h4, h5, h6, h7, h8, h9⟩ := h
 injection e with e
 subst e
 exact ⟨u1, u2, u3, u4, u5, u6, u7, u8, u9, rfl, h1, h2, h3, h4, h5, h6, h7, h8, h9⟩
theorem RDlg.setTgt {w : World} {vs : Array Value} {d : Dlg} (h : RDlg w (.agg vs) d) (u : Uri) {q1 q2 : Value} (g1 : RPrms w q1 u.ps) (g2 : RPrms w q2 u.hs) :
  RDlg w (.agg (setAll vs 17 [.string (bs u.scheme), .string (bs u.user), .string (bs u.host), .int .i64 u.port, q1, q2])) ⟨d.call, d.loc, d.rem, u, d.routes, d.lin, d.lout⟩ := by
 obtain ⟨u1, u2, u3, u4, u5, u6, u7, u8, u9, e, h1, h2, h3, h4, h5, h6, h7, h8, h9⟩ := h
 injection e with e
 subst e
 exact ⟨u1, u2, u3, u4, u5, u6, q1, q2, u9, by kernel_rfl, h1, h2, h3, h4, h5, h6, g1, g2, h9⟩
theorem RReq.row {w : World} {v : Value} {r : Rq} (h : RReq w v r) : ∃ rs : Array Value, v = .agg rs ∧ rs.size = 38 ∧ rs[25]? = some (.string (bs r.fromT)) ∧ rs[26]? = some (.string (bs r.toT)) ∧ rs[27]? = some (.string (bs r.call)) ∧ rs[28]? = some (.int .i64 r.seq) ∧
  (∃ a c, rs[32]? = some (.slice a r.contact.length c) ∧ RAdrs w (.slice a r.contact.length c) r.contact) ∧ RReq w (.agg rs) r := by
 have h' := h
 obtain ⟨c0, c1, c2, c3, c4, c5, c6, c7, c8, c9, c10, c11, c12, c13, c14, c15, u1, u2, u3, u4, u5, u6, u7, u8, rfl, h1, h2, h3, h4, h5, h6, h7, h8⟩ := h
 obtain ⟨a, c, rfl, _⟩ := h7.form
 exact ⟨_, rfl, rfl, rfl, rfl, rfl, rfl, ⟨a, c, rfl, h7⟩, h'⟩
theorem RReq.setTo {w : World} {rs : Array Value} {r : Rq} (h : RReq w (.agg rs) r) (t : List UInt8) : RReq w (.agg (rs.setIfInBounds 26 (.string (bs t)))) ⟨r.fr, r.dst, r.fromT, t, r.call, r.seq, r.contact, r.routes⟩ := by
 obtain ⟨c0, c1, c2, c3, c4, c5, c6, c7, c8, c9, c10, c11, c12, c13, c14, c15, u1, u2, u3, u4, u5, u6, u7, u8, e, h1⟩ := h
 injection e with e
 subst e
 exact ⟨c0, c1, c2, c3, c4, c5, c6, c7, c8, c9, c10, c11, c12, c13, c14, c15, u1, u2, u3, u4, u5, u6, u7, u8, rfl, h1⟩
theorem RReq.setSeq {w : World} {rs : Array Value} {r : Rq} (h : RReq w (.agg rs) r) (n : Int) : RReq w (.agg (rs.setIfInBounds 28 (.int .i64 n))) ⟨r.fr, r.dst, r.fromT, r.toT, r.call, n, r.contact, r.routes⟩ := by
 obtain ⟨c0, c1, c2, c3, c4, c5, c6, c7, c8, c9, c10, c11, c12, c13, c14, c15, u1, u2, u3, u4, u5, u6, u7, u8, e, h1⟩ := h
 injection e with e
 subst e
 exact ⟨c0, c1, c2, c3, c4, c5, c6, c7, c8, c9, c10, c11, c12, c13, c14, c15, u1, u2, u3, u4, u5, u6, u7, u8, rfl, h1⟩
/-! ### slices that do not lie in a given block -/
def DOff (g : Nat) (vs : Array Value) : Prop := ∀ x ∈ vs.toList, Off g x
theorem Off.str (g : Nat) (s : ByteArray) : Off g (.string s) := fun _ _ _ _ _ h => by cases h
theorem Off.int (g : Nat) (n : Int) : Off g (.int .i64 n) := fun _ _ _ _ _ h => by cases h
theorem mem_setAll : ∀ (l : List Value) (cs : Array Value) (i : Nat) (x : Value), x ∈ (setAll cs i l).toList → x ∈ cs.toList ∨ x ∈ l
 | [], _, _, _, h => .inl h
 | v :: r, cs, i, x, h => by
  rcases mem_setAll r _ _ _ h with h | h
  ·rw [Array.toList_setIfInBounds] at h
   rcases List.mem_or_eq_of_mem_set h with g | rfl
   ·exact .inl g
   ·exact .inr (List.mem_cons_self ..)
  ·exact .inr (List.mem_cons_of_mem _ h)
theorem DOff.set {g : Nat} {vs : Array Value} (h : DOff g vs) (i : Nat) {x : Value} (hx : Off g x) : DOff g (vs.setIfInBounds i x) := by
 intro y hy
 rcases mem_setAll [x] vs i y hy with e | e
 ·exact h y e
 ·rw [List.mem_singleton.1 e]; exact hx
theorem DOff.setAll {g : Nat} {vs : Array Value} (h : DOff g vs) (i : Nat) {l : List Value} (hl : ∀ x ∈ l, Off g x) : DOff g (setAll vs i l) := by
 intro y hy
 rcases mem_setAll l vs i y hy with e | e
 ·exact h y e
 ·exact hl y e
theorem RReq.lit {w : World} {v : Value} {r : Rq} (h : RReq w v r) : ∃ c0 c1 c2 c3 c4 c5 c6 c7 c8 c9 c10 c11 c12 c13 c14 c15 e1 y1 e2 y2 e3 y3 e4 y4 e5 y5 e6 y6 e7 y7 e8 y8, v = .agg #[c0, c1, c2, c3, c4, c5, c6, c7, c8, .string (bs r.fr.disp), .string (bs r.fr.uri.scheme), .string (bs r.fr.uri.user), .string (bs r.fr.uri.host), .int .i64 r.fr.uri.port, .slice e1 r.fr.uri.ps.length y1, .slice e2 r.fr.uri.hs.length y2, .slice e3 r.fr.ps.length y3, .string (bs r.dst.disp), .string (bs r.dst.uri.scheme), .string (bs r.dst.uri.user), .string (bs r.dst.uri.host), .int .i64 r.dst.uri.port, .slice e4 r.dst.uri.ps.length y4, .slice e5 r.dst.uri.hs.length y5, .slice e6 r.dst.ps.length y6, .string (bs r.fromT), .string (bs r.toT), .string (bs r.call), .int .i64 r.seq, c9, c10, c11, .slice e7 r.contact.length y7, .slice e8 r.routes.length y8, c12, c13, c14, c15] ∧ RPrms w (.slice e1 r.fr.uri.ps.length y1) r.fr.uri.ps ∧ RPrms w (.slice e2 r.fr.uri.hs.length y2) r.fr.uri.hs ∧ RPrms w (.slice e3 r.fr.ps.length y3) r.fr.ps ∧ RPrms w (.slice e4 r.dst.uri.ps.length y4) r.dst.uri.ps ∧ RPrms w (.slice e5 r.dst.uri.hs.length y5) r.dst.uri.hs ∧ RPrms w (.slice e6 r.dst.ps.length y6) r.dst.ps ∧ RAdrs w (.slice e7 r.contact.length y7) r.contact ∧ RStrs w (.slice e8 r.routes.length y8) r.routes := by
 obtain ⟨c0, c1, c2, c3, c4, c5, c6, c7, c8, c9, c10, c11, c12, c13, c14, c15, u1, u2, u3, u4, u5, u6, u7, u8, rfl, h1, h2, h3, h4, h5, h6, h7, h8⟩ := h
 obtain ⟨e1, y1, rfl, _⟩ := h1.form
 obtain ⟨e2, y2, rfl, _⟩ := h2.form
 obtain ⟨e3, y3, rfl, _⟩ := h3.form
 obtain ⟨e4, y4, rfl, _⟩ := h4.form
 obtain ⟨e5, y5, rfl, _⟩ := h5.form
 obtain ⟨e6, y6, rfl, _⟩ := h6.form
 obtain ⟨e7, y7, rfl, _⟩ := h7.form
 obtain ⟨e8, y8, rfl, _⟩ := h8.form
 exact ⟨c0, c1, c2, c3, c4, c5, c6, c7, c8, c9, c10, c11, c12, c13, c14, c15, e1, y1, e2, y2, e3, y3, e4, y4, e5, y5, e6, y6, e7, y7, e8, y8, rfl, h1, h2, h3, h4, h5, h6, h7, h8⟩
theorem RStrs.emp (w : World) : RStrs w (.slice none 0 0) [] := .inl ⟨⟨_, _, rfl⟩, rfl, rfl⟩
theorem RDlg.zero (w : World) : RDlg w (.agg #[(.string ⟨#[]⟩), (.string ⟨#[]⟩), (.string ⟨#[]⟩), (.string ⟨#[]⟩), (.string ⟨#[]⟩), (.int .i64 0), (.slice none 0 0), (.slice none 0 0), (.slice none 0 0), (.string ⟨#[]⟩), (.string ⟨#[]⟩), (.string ⟨#[]⟩), (.string ⟨#[]⟩), (.int .i64 0), (.slice none 0 0), (.slice none 0 0), (.slice none 0 0), (.string ⟨#[]⟩), (.string ⟨#[]⟩), (.string ⟨#[]⟩), (.int .i64 0), (.slice none 0 0), (.slice none 0 0), (.slice none 0 0), (.int .i64 0), (.int .i64 0)]) dlg0 :=
 ⟨_, _, _, _, _, _, _, _, _, rfl, RPrms.emp w, RPrms.emp w, RPrms.emp w, RPrms.emp w, RPrms.emp w, RPrms.emp w, RPrms.emp w, RPrms.emp w, RStrs.emp w⟩
def AdrB (a : Adr) : Prop := a.disp.length ≤ 4294967280 ∧ a.uri.scheme.length ≤ 4294967280 ∧ a.uri.host.length ≤ 4294967280 ∧ (∀ p ∈ a.uri.ps, p.name.length ≤ 4294967280 ∧ p.value.length ≤ 4294967280) ∧ (∀ p ∈ a.uri.hs, p.name.length ≤ 4294967280 ∧ p.value.length ≤ 4294967280) ∧ (∀ p ∈ a.ps, p.name.length ≤ 4294967280 ∧ p.value.length ≤ 4294967280) ∧
 a.uri.ps.length ≤ 1099511627776 ∧ a.uri.hs.length ≤ 1099511627776 ∧ a.ps.length ≤ 1099511627776
def RqB (r : Rq) : Prop := AdrB r.fr ∧ AdrB r.dst ∧ (∀ c ∈ r.contact, c.uri.ps.length ≤ 1099511627776 ∧ c.uri.hs.length ≤ 1099511627776) ∧ r.routes.length ≤ 1099511627776 ∧ r.toT.length ≤ 4294967280 ∧ r.fromT.length ≤ 4294967280
theorem beginS_cases (r : Rq) (t : List UInt8) :
  (r.toT ≠ [] ∧ beginS r t = (dlg0, 1)) ∨ (r.toT = [] ∧ r.fromT = [] ∧ beginS r t = (dlg0, 1)) ∨ (r.toT = [] ∧ r.fromT ≠ [] ∧ token t = false ∧ beginS r t = (dlg0, 1)) ∨
  (r.toT = [] ∧ r.fromT ≠ [] ∧ token t = true ∧ r.contact.length ≠ 1 ∧ beginS r t = (dlg0, 100)) ∨
  (r.toT = [] ∧ r.fromT ≠ [] ∧ token t = true ∧ ∃ c, r.contact = [c] ∧ ((checkA (taggedS r.dst t) ≠ 0 ∧ beginS r t = (dlg0, checkA (taggedS r.dst t))) ∨ (checkA (taggedS r.dst t) = 0 ∧ beginS r t = (⟨r.call, taggedS r.dst t, r.fr, c.uri, r.routes, r.seq, 0⟩, 0)))) := by
 unfold beginS
 by_cases h1 : r.toT = []
 ·by_cases h2 : r.fromT = []
  ·exact .inr (.inl ⟨h1, h2, if_pos (.inr (.inl h2))⟩)
  ·cases h3 : token t
   ·exact .inr (.inr (.inl ⟨h1, h2, rfl, if_pos (.inr (.inr rfl))⟩))
   ·have hn : ¬ (r.toT ≠ [] ∨ r.fromT = [] ∨ true = false) := by rintro (h | h | h); exact h h1; exact h2 h; cases h
    rw [if_neg hn]
    match hc : r.contact with
    | [] => exact .inr (.inr (.inr (.inl ⟨h1, h2, rfl, by simp, rfl⟩)))
    | a :: b :: l => exact .inr (.inr (.inr (.inl ⟨h1, h2, rfl, by simp, rfl⟩)))
    | [c] =>
     refine .inr (.inr (.inr (.inr ⟨h1, h2, rfl, c, rfl, ?_⟩)))
     by_cases h4 : checkA (taggedS r.dst t) = 0
     ·exact .inr ⟨h4, by dsimp only; rw [if_pos h4]⟩
     ·exact .inl ⟨h4, by dsimp only; rw [if_neg h4]⟩
 ·exact .inl ⟨h1, if_pos (.inl h1)⟩
theorem Off.strs {w w' : World} {v : Value} {L : List (List UInt8)} {g : Nat} (h : RStrs w v L) (ho : Off g v) (hh : ∀ k, k ≠ g → w'.heap[k]? = w.heap[k]?) (hs : w.heap.size ≤ w'.heap.size) : RStrs w' v L := by
 rcases h with h | ⟨b, off, cap, h1, h2, h2', h3, h4⟩
 ·exact .inl h
 ·by_cases hL : L.length = 0
  ·exact .inl ⟨⟨_, _, by rw [h1, hL]⟩, hL, by rw [List.length_eq_zero_iff.1 hL]; rfl⟩
  have hb : b ≠ g := ho _ _ _ _ _ h1 hL
  have hc : ∀ o, w'.cell? ⟨b, o, none⟩ = w.cell? ⟨b, o, none⟩ := fun o => World.cell?_of_block (w := w) (a := ⟨b, o, none⟩) (hh b hb)
  refine .inr ⟨b, off, cap, h1, h2, h2', Nat.lt_of_lt_of_le h3 hs, fun j u hj => ?_⟩
  rw [hc]; exact h4 j u hj
theorem Off.oldS {w : World} {v : Value} {L : List (List UInt8)} {g : Nat} (h : RStrs w v L) (hg : w.heap.size ≤ g) : Off g v := by
 intro b off p n c e hn
 rcases h with ⟨⟨ao, cap, rfl⟩, _⟩ | ⟨b', off', cap, rfl, _, _, h3, _⟩
 ·injection e with _ e _; exact absurd e.symm hn
 ·injection e with e _ _; injection e with e; injection e with e _ _; omega
theorem few_c (D S U H : ByteArray) (n : Int) (u1 u2 u3 : Value) (F G P : List Prm) (w : World) (h1 : RPrms w u1 F) (h2 : RPrms w u2 G) (h3 : RPrms w u3 P) :
  Calls Tryz.prog 28 #[.agg #[.string D, .string S, .string U, .string H, .int .i64 n, u1, u2, u3]] w fun e w' => e = .returned (.bool (decide (P.length ≤ 60) && decide (F.length ≤ 60) && decide (G.length ≤ 60))) ∧ Below w.heap.size w w' := by
 obtain ⟨a1, f1, rfl, m1, _⟩ := h1.form
 obtain ⟨a2, f2, rfl, m2, _⟩ := h2.form
 obtain ⟨a3, f3, rfl, m3, _⟩ := h3.form
 unfold maxLen at m1 m2 m3
 have hB : Below w.heap.size w (w.alloc (.cells #[.string D, .string S, .string U, .string H, .int .i64 n, .slice a1 F.length f1, .slice a2 G.length f2, .slice a3 P.length f3] 26)) := (Below.refl _ _).alloc (ρ _) _
 clear h1 h2 h3
 by_cases l1 : P.length ≤ 60
 ·have t1 : decide ((P.length : Int) ≤ 60) = true := by simp; omega
  have s1 : decide (P.length ≤ 60) = true := by simpa using l1
  clear l1
  by_cases l2 : F.length ≤ 60
  ·have t2 : decide ((F.length : Int) ≤ 60) = true := by simp; omega
   have s2 : decide (F.length ≤ 60) = true := by simpa using l2
   clear l2
   by_cases l3 : G.length ≤ 60
   ·have t3 : decide ((G.length : Int) ≤ 60) = true := by simp; omega
    have s3 : decide (G.length ≤ 60) = true := by simpa using l3
    clear l3
    go_enter Tryz.func28, Tryz.ntmps28
    go_wp2
    go_ret
    exact ⟨by rw [s1, s2, s3]; rfl, hB⟩
   ·have t3 : decide ((G.length : Int) ≤ 60) = false := by simp; omega
    have s3 : decide (G.length ≤ 60) = false := by simpa using l3
    clear l3
    go_enter Tryz.func28, Tryz.ntmps28
    go_wp2
    go_ret
    exact ⟨by rw [s1, s2, s3]; rfl, hB⟩
  ·have t2 : decide ((F.length : Int) ≤ 60) = false := by simp; omega
   have s2 : decide (F.length ≤ 60) = false := by simpa using l2
   clear l2
   go_enter Tryz.func28, Tryz.ntmps28
   go_wp2
   go_ret
   exact ⟨by rw [s1, s2]; rfl, hB⟩
 ·have t1 : decide ((P.length : Int) ≤ 60) = false := by simp; omega
  have s1 : decide (P.length ≤ 60) = false := by simpa using l1
  clear l1
  go_enter Tryz.func28, Tryz.ntmps28
  go_wp2
  go_ret
  exact ⟨by rw [s1]; rfl, hB⟩
end Go.Proofs.YtipdiddjhimdcaaGreatDoor
