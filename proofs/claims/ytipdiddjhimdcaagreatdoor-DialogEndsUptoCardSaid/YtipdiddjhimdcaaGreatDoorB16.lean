/-
  Packed: XDia, XBlkS, XBig, XBg0, XFew.
-/
import Derived.Test.YtipdiddjhimdcaaGreatDoorB15
import Derived.Test.YtipdiddjhimdcaaGreatDoorB11
import Derived.Deep.RegionWith
import Derived.Laws.IdiomCopy
import Derived.Laws.Cells
import Derived.Laws.Tables
import Derived.Test.YtipdiddjhimdcaaGreatDoorB14
import Derived.Test.YtipdiddjhimdcaaGreatDoorB13
namespace Go.Proofs.YtipdiddjhimdcaaGreatDoor
set_option linter.unusedSimpArgs false
set_option linter.unusedVariables false
open Go.RowKit Go.Sort

theorem blkg6 {w : World} {g : Nat} {t : TypeId} {a b c d e f : Value} (h : Blk w g t #[a, b, c, d, e, f]) :
    w.cell? ⟨g, 0, none⟩ = some a ∧ w.cell? ⟨g, 1, none⟩ = some b ∧ w.cell? ⟨g, 2, none⟩ = some c ∧ w.cell? ⟨g, 3, none⟩ = some d ∧ w.cell? ⟨g, 4, none⟩ = some e ∧ w.cell? ⟨g, 5, none⟩ = some f ∧ w.frozen? ⟨g, 0, none⟩ = false ∧ w.frozen? ⟨g, 1, none⟩ = false ∧ w.frozen? ⟨g, 2, none⟩ = false ∧ w.frozen? ⟨g, 3, none⟩ = false ∧ w.frozen? ⟨g, 4, none⟩ = false ∧ w.frozen? ⟨g, 5, none⟩ = false ∧ g < w.heap.size :=
  ⟨boxedCell h 0, boxedCell h 1, boxedCell h 2, boxedCell h 3, boxedCell h 4, boxedCell h 5, boxedFree h 0, boxedFree h 1, boxedFree h 2, boxedFree h 3, boxedFree h 4, boxedFree h 5, h.lt⟩
theorem blkg8 {w : World} {g : Nat} {t : TypeId} {a b c d e f i j : Value} (h : Blk w g t #[a, b, c, d, e, f, i, j]) :
    w.cell? ⟨g, 0, none⟩ = some a ∧ w.cell? ⟨g, 1, none⟩ = some b ∧ w.cell? ⟨g, 2, none⟩ = some c ∧ w.cell? ⟨g, 3, none⟩ = some d ∧ w.cell? ⟨g, 4, none⟩ = some e ∧ w.cell? ⟨g, 5, none⟩ = some f ∧ w.cell? ⟨g, 6, none⟩ = some i ∧ w.cell? ⟨g, 7, none⟩ = some j ∧ w.frozen? ⟨g, 0, none⟩ = false ∧ w.frozen? ⟨g, 1, none⟩ = false ∧ w.frozen? ⟨g, 2, none⟩ = false ∧ w.frozen? ⟨g, 3, none⟩ = false ∧ w.frozen? ⟨g, 4, none⟩ = false ∧ w.frozen? ⟨g, 5, none⟩ = false ∧ w.frozen? ⟨g, 6, none⟩ = false ∧ w.frozen? ⟨g, 7, none⟩ = false ∧ g < w.heap.size :=
  ⟨boxedCell h 0, boxedCell h 1, boxedCell h 2, boxedCell h 3, boxedCell h 4, boxedCell h 5, boxedCell h 6, boxedCell h 7, boxedFree h 0, boxedFree h 1, boxedFree h 2, boxedFree h 3, boxedFree h 4, boxedFree h 5, boxedFree h 6, boxedFree h 7, h.lt⟩

set_option maxRecDepth 100000 in
set_option maxHeartbeats 6400000 in
theorem cloned_c (S U H : ByteArray) (n : Int) (u1 u2 : Value) (F G : List Prm) (w : World) (h1 : RPrms w u1 F) (h2 : RPrms w u2 G) (l1 : F.length ≤ 1099511627776) (l2 : G.length ≤ 1099511627776) :
    Calls Tryz.prog 34 #[.agg #[.string S, .string U, .string H, .int .i64 n, u1, u2]] w fun e w' => ∃ v1 v2, e = .returned (.agg #[.string S, .string U, .string H, .int .i64 n, v1, v2]) ∧ RPrms w' v1 F ∧ RPrms w' v2 G ∧ Fresh w.heap.size v1 ∧ Fresh w.heap.size v2 ∧ Below w.heap.size w w' := by
  have HU1 := Lib.hid h1
  have HU2 := Lib.hid h2
  obtain ⟨ao, ac, rfl, _, _⟩ := h1.form
  obtain ⟨bo, bc, rfl, _, _⟩ := h2.form
  have HC1 := Lib.hid (fun wx hx => cloneP_c (.slice ao F.length ac) F wx hx l1)
  have HC2 := Lib.hid (fun wx hx => cloneP_c (.slice bo G.length bc) G wx hx l2)
  clear h1 h2
  have hZ0 : Below w.heap.size w ((w.alloc (.cells #[.string S, .string U, .string H, .int .i64 n, .slice ao F.length ac, .slice bo G.length bc] 24)).alloc (.cells #[.string ⟨#[]⟩, .string ⟨#[]⟩, .string ⟨#[]⟩, .int .i64 0, .slice none 0 0, .slice none 0 0] 24)) := ((Below.refl _ _).alloc (Nat.le_refl _) _).alloc (by rw [World.size_alloc]; omega) _
  have bmR0 : Blk ((w.alloc (.cells #[.string S, .string U, .string H, .int .i64 n, .slice ao F.length ac, .slice bo G.length bc] 24)).alloc (.cells #[.string ⟨#[]⟩, .string ⟨#[]⟩, .string ⟨#[]⟩, .int .i64 0, .slice none 0 0, .slice none 0 0] 24)) w.heap.size 24 #[.string S, .string U, .string H, .int .i64 n, .slice ao F.length ac, .slice bo G.length bc] := (Blk.new w 24 #[.string S, .string U, .string H, .int .i64 n, .slice ao F.length ac, .slice bo G.length bc]).alloc _
  have bmU0 : Blk ((w.alloc (.cells #[.string S, .string U, .string H, .int .i64 n, .slice ao F.length ac, .slice bo G.length bc] 24)).alloc (.cells #[.string ⟨#[]⟩, .string ⟨#[]⟩, .string ⟨#[]⟩, .int .i64 0, .slice none 0 0, .slice none 0 0] 24)) (w.heap.size + 1) 24 #[.string ⟨#[]⟩, .string ⟨#[]⟩, .string ⟨#[]⟩, .int .i64 0, .slice none 0 0, .slice none 0 0] := by
    have := Blk.new (w.alloc (.cells #[.string S, .string U, .string H, .int .i64 n, .slice ao F.length ac, .slice bo G.length bc] 24)) 24 #[.string ⟨#[]⟩, .string ⟨#[]⟩, .string ⟨#[]⟩, .int .i64 0, .slice none 0 0, .slice none 0 0]
    rwa [World.size_alloc] at this
  have hs2 : ((w.alloc (.cells #[.string S, .string U, .string H, .int .i64 n, .slice ao F.length ac, .slice bo G.length bc] 24)).alloc (.cells #[.string ⟨#[]⟩, .string ⟨#[]⟩, .string ⟨#[]⟩, .int .i64 0, .slice none 0 0, .slice none 0 0] 24)).heap.size = w.heap.size + 2 := by rw [World.size_alloc, World.size_alloc]
  obtain ⟨w0, hw0⟩ : ∃ w0, w0 = ((w.alloc (.cells #[.string S, .string U, .string H, .int .i64 n, .slice ao F.length ac, .slice bo G.length bc] 24)).alloc (.cells #[.string ⟨#[]⟩, .string ⟨#[]⟩, .string ⟨#[]⟩, .int .i64 0, .slice none 0 0, .slice none 0 0] 24)) := ⟨_, rfl⟩
  rw [← hw0] at hZ0 bmR0 bmU0 hs2
  have HX := Lib.hid (fun (wx : World) (h : Below w0.heap.size w0 wx) => (show Blk wx w.heap.size 24 #[.string S, .string U, .string H, .int .i64 n, .slice ao F.length ac, .slice bo G.length bc] ∧ Blk wx (w.heap.size + 1) 24 #[.string ⟨#[]⟩, .string ⟨#[]⟩, .string ⟨#[]⟩, .int .i64 0, .slice none 0 0, .slice none 0 0] ∧ Below w.heap.size w wx ∧ RPrms wx (.slice ao F.length ac) F ∧ RPrms wx (.slice bo G.length bc) G from by
    have hx := hZ0.trans (h.mono hZ0.size)
    exact ⟨bmR0.call h, bmU0.call h, hx, HU1.out.below hx (Nat.le_refl _), HU2.out.below hx (Nat.le_refl _)⟩))
  have HW0 := Lib.hid hw0
  have HS2 := Lib.hid hs2
  have hZ : Below w0.heap.size w0 w0.drew := (Below.refl _ _).drew
  obtain ⟨bmR, bmU, hBB, hU1, hU2⟩ := HX.out _ hZ
  obtain ⟨p0, p1, p2, p3, p4, p5, q0, q1, q2, q3, q4, q5, zR⟩ := blkg6 bmR
  obtain ⟨m0, m1, m2, m3, m4, m5, f0, f1, f2, f3, f4, f5, zU⟩ := blkg6 bmU
  clear hw0 hZ0 bmR0 bmU0 hs2 HU1 HU2
  go_enter Tryz.func34, Tryz.ntmps34
  go_upto_region 1 with fail
  rw [← HW0.out]
  go_region_with (first | (go_at_call 79; first | ((with_reducible refine (HC1.out _ hU1).mono ?_); rintro e wa ⟨v1, rfl, hP1, hC1⟩; have hF1 := hP1.fresh.mono (show w.heap.size + 2 ≤ _ from HS2.out ▸ hZ.size); obtain ⟨a1, d1, rfl, _, _⟩ := hP1.read.form; have R1 := hP1.read; have hZ := hZ.trans (hC1.mono hZ.size); clear hP1; obtain ⟨bmR, bmU, hBB, hU1, hU2⟩ := HX.out _ hZ; obtain ⟨p0, p1, p2, p3, p4, p5, q0, q1, q2, q3, q4, q5, zR⟩ := blkg6 bmR; obtain ⟨m0, m1, m2, m3, m4, m5, f0, f1, f2, f3, f4, f5, zU⟩ := blkg6 bmU) | ((with_reducible refine (HC2.out _ hU2).mono ?_); rintro e wb ⟨v2, rfl, hP2, hC2⟩; have hF2 := hP2.fresh.mono (show w.heap.size + 2 ≤ _ from HS2.out ▸ hZ.size); obtain ⟨a2, d2, rfl, _, _⟩ := hP2.read.form; have R2 := hP2.read; have R1 := R1.below hC2 (Nat.le_refl _); have hZ := hZ.trans (hC2.mono hZ.size); clear hP2; obtain ⟨bmR, bmU, hBB, hU1, hU2⟩ := HX.out _ hZ; obtain ⟨p0, p1, p2, p3, p4, p5, q0, q1, q2, q3, q4, q5, zR⟩ := blkg6 bmR; obtain ⟨m0, m1, m2, m3, m4, m5, f0, f1, f2, f3, f4, f5, zU⟩ := blkg6 bmU)))
  all_goals
    go_wp2
    refine bodyPost_ret (v := .agg #[.string S, .string U, .string H, .int .i64 n, .slice a1 F.length d1, .slice a2 G.length d2]) (by simp [results, Tryz.results34, go_sem, m0, m1, m2, m3, m4, m5]) rfl ?_
    exact ⟨_, _, rfl, (RPrms.set (RPrms.set (RPrms.set (RPrms.set (RPrms.set (RPrms.set (RPrms.set (RPrms.set R1 hF1 (p := ⟨w.heap.size, 4, none⟩) (show w.heap.size < w.heap.size + 2 by omega) _) hF1 (p := ⟨w.heap.size, 5, none⟩) (show w.heap.size < w.heap.size + 2 by omega) _) hF1 (p := ⟨w.heap.size + 1, 0, none⟩) (show w.heap.size + 1 < w.heap.size + 2 by omega) _) hF1 (p := ⟨w.heap.size + 1, 1, none⟩) (show w.heap.size + 1 < w.heap.size + 2 by omega) _) hF1 (p := ⟨w.heap.size + 1, 2, none⟩) (show w.heap.size + 1 < w.heap.size + 2 by omega) _) hF1 (p := ⟨w.heap.size + 1, 3, none⟩) (show w.heap.size + 1 < w.heap.size + 2 by omega) _) hF1 (p := ⟨w.heap.size + 1, 4, none⟩) (show w.heap.size + 1 < w.heap.size + 2 by omega) _) hF1 (p := ⟨w.heap.size + 1, 5, none⟩) (show w.heap.size + 1 < w.heap.size + 2 by omega) _), (RPrms.set (RPrms.set (RPrms.set (RPrms.set (RPrms.set (RPrms.set (RPrms.set (RPrms.set R2 hF2 (p := ⟨w.heap.size, 4, none⟩) (show w.heap.size < w.heap.size + 2 by omega) _) hF2 (p := ⟨w.heap.size, 5, none⟩) (show w.heap.size < w.heap.size + 2 by omega) _) hF2 (p := ⟨w.heap.size + 1, 0, none⟩) (show w.heap.size + 1 < w.heap.size + 2 by omega) _) hF2 (p := ⟨w.heap.size + 1, 1, none⟩) (show w.heap.size + 1 < w.heap.size + 2 by omega) _) hF2 (p := ⟨w.heap.size + 1, 2, none⟩) (show w.heap.size + 1 < w.heap.size + 2 by omega) _) hF2 (p := ⟨w.heap.size + 1, 3, none⟩) (show w.heap.size + 1 < w.heap.size + 2 by omega) _) hF2 (p := ⟨w.heap.size + 1, 4, none⟩) (show w.heap.size + 1 < w.heap.size + 2 by omega) _) hF2 (p := ⟨w.heap.size + 1, 5, none⟩) (show w.heap.size + 1 < w.heap.size + 2 by omega) _), hF1.mono (by omega), hF2.mono (by omega), ((((((((hBB.setCell (Nat.le_refl _) _).setCell (Nat.le_refl _) _).setCell (Nat.le_succ _) _).setCell (Nat.le_succ _) _).setCell (Nat.le_succ _) _).setCell (Nat.le_succ _) _).setCell (Nat.le_succ _) _).setCell (Nat.le_succ _) _)⟩

set_option maxRecDepth 100000 in
set_option maxHeartbeats 6400000 in
theorem own_c (D S U H : ByteArray) (n : Int) (u1 u2 u3 : Value) (F G P : List Prm) (w : World) (h1 : RPrms w u1 F) (h2 : RPrms w u2 G) (h3 : RPrms w u3 P) (l1 : F.length ≤ 1099511627776) (l2 : G.length ≤ 1099511627776) (l3 : P.length ≤ 1099511627776) :
    Calls Tryz.prog 33 #[.agg #[.string D, .string S, .string U, .string H, .int .i64 n, u1, u2, u3]] w fun e w' => ∃ v1 v2 v3, e = .returned (.agg #[.string D, .string S, .string U, .string H, .int .i64 n, v1, v2, v3]) ∧ RPrms w' v1 F ∧ RPrms w' v2 G ∧ RPrms w' v3 P ∧ Fresh w.heap.size v1 ∧ Fresh w.heap.size v2 ∧ Fresh w.heap.size v3 ∧ Below w.heap.size w w' := by
  have HU1 := Lib.hid h1
  have HU2 := Lib.hid h2
  have HU3 := Lib.hid h3
  obtain ⟨ao, ac, rfl, _, _⟩ := h1.form
  obtain ⟨bo, bc, rfl, _, _⟩ := h2.form
  obtain ⟨co, cc, rfl, _, _⟩ := h3.form
  have HCL := Lib.hid (fun wx hx hy => cloned_c S U H n (.slice ao F.length ac) (.slice bo G.length bc) F G wx hx hy l1 l2)
  have HC3 := Lib.hid (fun wx hx => cloneP_c (.slice co P.length cc) P wx hx l3)
  have HU3X := Lib.hid h3
  clear h1 h2 h3
  have hZ0 : Below w.heap.size w ((w.alloc (.cells #[.string D, .string S, .string U, .string H, .int .i64 n, .slice ao F.length ac, .slice bo G.length bc, .slice co P.length cc] 26)).alloc (.cells #[.string ⟨#[]⟩, .string ⟨#[]⟩, .string ⟨#[]⟩, .string ⟨#[]⟩, .int .i64 0, .slice none 0 0, .slice none 0 0, .slice none 0 0] 26)) := ((Below.refl _ _).alloc (Nat.le_refl _) _).alloc (by rw [World.size_alloc]; omega) _
  have bmR0 : Blk ((w.alloc (.cells #[.string D, .string S, .string U, .string H, .int .i64 n, .slice ao F.length ac, .slice bo G.length bc, .slice co P.length cc] 26)).alloc (.cells #[.string ⟨#[]⟩, .string ⟨#[]⟩, .string ⟨#[]⟩, .string ⟨#[]⟩, .int .i64 0, .slice none 0 0, .slice none 0 0, .slice none 0 0] 26)) w.heap.size 26 #[.string D, .string S, .string U, .string H, .int .i64 n, .slice ao F.length ac, .slice bo G.length bc, .slice co P.length cc] := (Blk.new w 26 #[.string D, .string S, .string U, .string H, .int .i64 n, .slice ao F.length ac, .slice bo G.length bc, .slice co P.length cc]).alloc _
  have bmU0 : Blk ((w.alloc (.cells #[.string D, .string S, .string U, .string H, .int .i64 n, .slice ao F.length ac, .slice bo G.length bc, .slice co P.length cc] 26)).alloc (.cells #[.string ⟨#[]⟩, .string ⟨#[]⟩, .string ⟨#[]⟩, .string ⟨#[]⟩, .int .i64 0, .slice none 0 0, .slice none 0 0, .slice none 0 0] 26)) (w.heap.size + 1) 26 #[.string ⟨#[]⟩, .string ⟨#[]⟩, .string ⟨#[]⟩, .string ⟨#[]⟩, .int .i64 0, .slice none 0 0, .slice none 0 0, .slice none 0 0] := by
    have := Blk.new (w.alloc (.cells #[.string D, .string S, .string U, .string H, .int .i64 n, .slice ao F.length ac, .slice bo G.length bc, .slice co P.length cc] 26)) 26 #[.string ⟨#[]⟩, .string ⟨#[]⟩, .string ⟨#[]⟩, .string ⟨#[]⟩, .int .i64 0, .slice none 0 0, .slice none 0 0, .slice none 0 0]
    rwa [World.size_alloc] at this
  have hs2 : ((w.alloc (.cells #[.string D, .string S, .string U, .string H, .int .i64 n, .slice ao F.length ac, .slice bo G.length bc, .slice co P.length cc] 26)).alloc (.cells #[.string ⟨#[]⟩, .string ⟨#[]⟩, .string ⟨#[]⟩, .string ⟨#[]⟩, .int .i64 0, .slice none 0 0, .slice none 0 0, .slice none 0 0] 26)).heap.size = w.heap.size + 2 := by rw [World.size_alloc, World.size_alloc]
  obtain ⟨w0, hw0⟩ : ∃ w0, w0 = ((w.alloc (.cells #[.string D, .string S, .string U, .string H, .int .i64 n, .slice ao F.length ac, .slice bo G.length bc, .slice co P.length cc] 26)).alloc (.cells #[.string ⟨#[]⟩, .string ⟨#[]⟩, .string ⟨#[]⟩, .string ⟨#[]⟩, .int .i64 0, .slice none 0 0, .slice none 0 0, .slice none 0 0] 26)) := ⟨_, rfl⟩
  rw [← hw0] at hZ0 bmR0 bmU0 hs2
  have HX := Lib.hid (fun (wx : World) (h : Below w0.heap.size w0 wx) => (show Blk wx w.heap.size 26 #[.string D, .string S, .string U, .string H, .int .i64 n, .slice ao F.length ac, .slice bo G.length bc, .slice co P.length cc] ∧ Blk wx (w.heap.size + 1) 26 #[.string ⟨#[]⟩, .string ⟨#[]⟩, .string ⟨#[]⟩, .string ⟨#[]⟩, .int .i64 0, .slice none 0 0, .slice none 0 0, .slice none 0 0] ∧ Below w.heap.size w wx ∧ RPrms wx (.slice ao F.length ac) F ∧ RPrms wx (.slice bo G.length bc) G ∧ RPrms wx (.slice co P.length cc) P from by
    have hx := hZ0.trans (h.mono hZ0.size)
    exact ⟨bmR0.call h, bmU0.call h, hx, HU1.out.below hx (Nat.le_refl _), HU2.out.below hx (Nat.le_refl _), HU3.out.below hx (Nat.le_refl _)⟩))
  have HW0 := Lib.hid hw0
  have HS2 := Lib.hid hs2
  have hZ : Below w0.heap.size w0 w0.drew := (Below.refl _ _).drew
  obtain ⟨bmR, bmU, hBB, hU1, hU2, hU3⟩ := HX.out _ hZ
  obtain ⟨p0, p1, p2, p3, p4, p5, p6, p7, q0, q1, q2, q3, q4, q5, q6, q7, zR⟩ := blkg8 bmR
  obtain ⟨m0, m1, m2, m3, m4, m5, m6, m7, f0, f1, f2, f3, f4, f5, f6, f7, zU⟩ := blkg8 bmU
  clear hw0 hZ0 bmR0 bmU0 hs2 HU1 HU2 HU3
  go_enter Tryz.func33, Tryz.ntmps33
  go_upto_region 1 with fail
  rw [← HW0.out]
  go_region_with (first | (go_at_call 34; (with_reducible refine (HCL.out _ hU1 hU2).mono ?_); rintro e wa ⟨v1, v2, rfl, R1, R2, hF1, hF2, hC1⟩; have hF1 := hF1.mono (show w.heap.size + 2 ≤ _ from HS2.out ▸ hZ.size); have hF2 := hF2.mono (show w.heap.size + 2 ≤ _ from HS2.out ▸ hZ.size); obtain ⟨a1, d1, rfl, _, _⟩ := R1.form; obtain ⟨a2, d2, rfl, _, _⟩ := R2.form; have hZ := hZ.trans (hC1.mono hZ.size); obtain ⟨bmR, bmU, hBB, hU1, hU2, hU3⟩ := HX.out _ hZ; obtain ⟨p0, p1, p2, p3, p4, p5, p6, p7, q0, q1, q2, q3, q4, q5, q6, q7, zR⟩ := blkg8 bmR; obtain ⟨m0, m1, m2, m3, m4, m5, m6, m7, f0, f1, f2, f3, f4, f5, f6, f7, zU⟩ := blkg8 bmU) | (go_at_call 79; (with_reducible refine (HC3.out _ hU3).mono ?_); rintro e wb ⟨v3, rfl, hP3, hC3⟩; have hF3 := hP3.fresh.mono (show w.heap.size + 2 ≤ _ from HS2.out ▸ hZ.size); obtain ⟨a3, d3, rfl, _, _⟩ := hP3.read.form; have R3 := hP3.read; have R1 := R1.below hC3 (Nat.le_refl _); have R2 := R2.below hC3 (Nat.le_refl _); have hZ := hZ.trans (hC3.mono hZ.size); clear hP3; obtain ⟨bmR, bmU, hBB, hU1, hU2, hU3⟩ := HX.out _ hZ; obtain ⟨p0, p1, p2, p3, p4, p5, p6, p7, q0, q1, q2, q3, q4, q5, q6, q7, zR⟩ := blkg8 bmR; obtain ⟨m0, m1, m2, m3, m4, m5, m6, m7, f0, f1, f2, f3, f4, f5, f6, f7, zU⟩ := blkg8 bmU))
  all_goals
    go_wp2
    refine bodyPost_ret (v := .agg #[.string D, .string S, .string U, .string H, .int .i64 n, .slice a1 F.length d1, .slice a2 G.length d2, .slice a3 P.length d3]) (by simp [results, Tryz.results33, go_sem, m0, m1, m2, m3, m4, m5, m6, m7]) rfl ?_
    exact ⟨_, _, _, rfl, (RPrms.set (RPrms.set (RPrms.set (RPrms.set (RPrms.set (RPrms.set (RPrms.set (RPrms.set (RPrms.set (RPrms.set (RPrms.set (RPrms.set (RPrms.set (RPrms.set (RPrms.set R1 hF1 (p := ⟨w.heap.size, 1, none⟩) (show w.heap.size < w.heap.size + 2 by omega) _) hF1 (p := ⟨w.heap.size, 2, none⟩) (show w.heap.size < w.heap.size + 2 by omega) _) hF1 (p := ⟨w.heap.size, 3, none⟩) (show w.heap.size < w.heap.size + 2 by omega) _) hF1 (p := ⟨w.heap.size, 4, none⟩) (show w.heap.size < w.heap.size + 2 by omega) _) hF1 (p := ⟨w.heap.size, 5, none⟩) (show w.heap.size < w.heap.size + 2 by omega) _) hF1 (p := ⟨w.heap.size, 6, none⟩) (show w.heap.size < w.heap.size + 2 by omega) _) hF1 (p := ⟨w.heap.size, 7, none⟩) (show w.heap.size < w.heap.size + 2 by omega) _) hF1 (p := ⟨w.heap.size + 1, 0, none⟩) (show w.heap.size + 1 < w.heap.size + 2 by omega) _) hF1 (p := ⟨w.heap.size + 1, 1, none⟩) (show w.heap.size + 1 < w.heap.size + 2 by omega) _) hF1 (p := ⟨w.heap.size + 1, 2, none⟩) (show w.heap.size + 1 < w.heap.size + 2 by omega) _) hF1 (p := ⟨w.heap.size + 1, 3, none⟩) (show w.heap.size + 1 < w.heap.size + 2 by omega) _) hF1 (p := ⟨w.heap.size + 1, 4, none⟩) (show w.heap.size + 1 < w.heap.size + 2 by omega) _) hF1 (p := ⟨w.heap.size + 1, 5, none⟩) (show w.heap.size + 1 < w.heap.size + 2 by omega) _) hF1 (p := ⟨w.heap.size + 1, 6, none⟩) (show w.heap.size + 1 < w.heap.size + 2 by omega) _) hF1 (p := ⟨w.heap.size + 1, 7, none⟩) (show w.heap.size + 1 < w.heap.size + 2 by omega) _), (RPrms.set (RPrms.set (RPrms.set (RPrms.set (RPrms.set (RPrms.set (RPrms.set (RPrms.set (RPrms.set (RPrms.set (RPrms.set (RPrms.set (RPrms.set (RPrms.set (RPrms.set R2 hF2 (p := ⟨w.heap.size, 1, none⟩) (show w.heap.size < w.heap.size + 2 by omega) _) hF2 (p := ⟨w.heap.size, 2, none⟩) (show w.heap.size < w.heap.size + 2 by omega) _) hF2 (p := ⟨w.heap.size, 3, none⟩) (show w.heap.size < w.heap.size + 2 by omega) _) hF2 (p := ⟨w.heap.size, 4, none⟩) (show w.heap.size < w.heap.size + 2 by omega) _) hF2 (p := ⟨w.heap.size, 5, none⟩) (show w.heap.size < w.heap.size + 2 by omega) _) hF2 (p := ⟨w.heap.size, 6, none⟩) (show w.heap.size < w.heap.size + 2 by omega) _) hF2 (p := ⟨w.heap.size, 7, none⟩) (show w.heap.size < w.heap.size + 2 by omega) _) hF2 (p := ⟨w.heap.size + 1, 0, none⟩) (show w.heap.size + 1 < w.heap.size + 2 by omega) _) hF2 (p := ⟨w.heap.size + 1, 1, none⟩) (show w.heap.size + 1 < w.heap.size + 2 by omega) _) hF2 (p := ⟨w.heap.size + 1, 2, none⟩) (show w.heap.size + 1 < w.heap.size + 2 by omega) _) hF2 (p := ⟨w.heap.size + 1, 3, none⟩) (show w.heap.size + 1 < w.heap.size + 2 by omega) _) hF2 (p := ⟨w.heap.size + 1, 4, none⟩) (show w.heap.size + 1 < w.heap.size + 2 by omega) _) hF2 (p := ⟨w.heap.size + 1, 5, none⟩) (show w.heap.size + 1 < w.heap.size + 2 by omega) _) hF2 (p := ⟨w.heap.size + 1, 6, none⟩) (show w.heap.size + 1 < w.heap.size + 2 by omega) _) hF2 (p := ⟨w.heap.size + 1, 7, none⟩) (show w.heap.size + 1 < w.heap.size + 2 by omega) _), (RPrms.set (RPrms.set (RPrms.set (RPrms.set (RPrms.set (RPrms.set (RPrms.set (RPrms.set (RPrms.set (RPrms.set (RPrms.set (RPrms.set (RPrms.set (RPrms.set (RPrms.set R3 hF3 (p := ⟨w.heap.size, 1, none⟩) (show w.heap.size < w.heap.size + 2 by omega) _) hF3 (p := ⟨w.heap.size, 2, none⟩) (show w.heap.size < w.heap.size + 2 by omega) _) hF3 (p := ⟨w.heap.size, 3, none⟩) (show w.heap.size < w.heap.size + 2 by omega) _) hF3 (p := ⟨w.heap.size, 4, none⟩) (show w.heap.size < w.heap.size + 2 by omega) _) hF3 (p := ⟨w.heap.size, 5, none⟩) (show w.heap.size < w.heap.size + 2 by omega) _) hF3 (p := ⟨w.heap.size, 6, none⟩) (show w.heap.size < w.heap.size + 2 by omega) _) hF3 (p := ⟨w.heap.size, 7, none⟩) (show w.heap.size < w.heap.size + 2 by omega) _) hF3 (p := ⟨w.heap.size + 1, 0, none⟩) (show w.heap.size + 1 < w.heap.size + 2 by omega) _) hF3 (p := ⟨w.heap.size + 1, 1, none⟩) (show w.heap.size + 1 < w.heap.size + 2 by omega) _) hF3 (p := ⟨w.heap.size + 1, 2, none⟩) (show w.heap.size + 1 < w.heap.size + 2 by omega) _) hF3 (p := ⟨w.heap.size + 1, 3, none⟩) (show w.heap.size + 1 < w.heap.size + 2 by omega) _) hF3 (p := ⟨w.heap.size + 1, 4, none⟩) (show w.heap.size + 1 < w.heap.size + 2 by omega) _) hF3 (p := ⟨w.heap.size + 1, 5, none⟩) (show w.heap.size + 1 < w.heap.size + 2 by omega) _) hF3 (p := ⟨w.heap.size + 1, 6, none⟩) (show w.heap.size + 1 < w.heap.size + 2 by omega) _) hF3 (p := ⟨w.heap.size + 1, 7, none⟩) (show w.heap.size + 1 < w.heap.size + 2 by omega) _), hF1.mono (by omega), hF2.mono (by omega), hF3.mono (by omega), (((((((((((((((hBB.setCell (Nat.le_refl _) _).setCell (Nat.le_refl _) _).setCell (Nat.le_refl _) _).setCell (Nat.le_refl _) _).setCell (Nat.le_refl _) _).setCell (Nat.le_refl _) _).setCell (Nat.le_refl _) _).setCell (Nat.le_succ _) _).setCell (Nat.le_succ _) _).setCell (Nat.le_succ _) _).setCell (Nat.le_succ _) _).setCell (Nat.le_succ _) _).setCell (Nat.le_succ _) _).setCell (Nat.le_succ _) _).setCell (Nat.le_succ _) _)⟩

set_option maxRecDepth 100000 in
set_option maxHeartbeats 6400000 in
theorem tagged_c (D S U H : ByteArray) (n : Int) (u1 u2 u3 : Value) (F G P : List Prm) (T : ByteArray) (w : World) (h1 : RPrms w u1 F) (h2 : RPrms w u2 G) (h3 : RPrms w u3 P) (l1 : F.length ≤ 1099511627776) (l2 : G.length ≤ 1099511627776) (l3 : P.length ≤ 1099511627776) :
    Calls Tryz.prog 32 #[.agg #[.string D, .string S, .string U, .string H, .int .i64 n, u1, u2, u3], .string T] w fun e w' => ∃ v1 v2 v3, e = .returned (.agg #[.string D, .string S, .string U, .string H, .int .i64 n, v1, v2, v3]) ∧ RPrms w' v1 F ∧ RPrms w' v2 G ∧ RPrms w' v3 (P ++ [⟨nTag, us T, true⟩]) ∧ Fresh w.heap.size v1 ∧ Fresh w.heap.size v2 ∧ Fresh w.heap.size v3 ∧ Below w.heap.size w w' := by
  have HU1 := Lib.hid h1
  have HU2 := Lib.hid h2
  have HU3 := Lib.hid h3
  obtain ⟨ao, ac, rfl, _, _⟩ := h1.form
  obtain ⟨bo, bc, rfl, _, _⟩ := h2.form
  obtain ⟨co, cc, rfl, _, _⟩ := h3.form
  have HCL := Lib.hid (fun wx hx hy => cloned_c S U H n (.slice ao F.length ac) (.slice bo G.length bc) F G wx hx hy l1 l2)
  have HC3 := Lib.hid (fun wx hx => cloneP_c (.slice co P.length cc) P wx hx l3)
  have HU3X := Lib.hid h3
  clear h1 h2 h3
  have hZ0 : Below w.heap.size w ((w.alloc (.cells #[.string D, .string S, .string U, .string H, .int .i64 n, .slice ao F.length ac, .slice bo G.length bc, .slice co P.length cc] 26)).alloc (.cells #[.string ⟨#[]⟩, .string ⟨#[]⟩, .string ⟨#[]⟩, .string ⟨#[]⟩, .int .i64 0, .slice none 0 0, .slice none 0 0, .slice none 0 0] 26)) := ((Below.refl _ _).alloc (Nat.le_refl _) _).alloc (by rw [World.size_alloc]; omega) _
  have bmR0 : Blk ((w.alloc (.cells #[.string D, .string S, .string U, .string H, .int .i64 n, .slice ao F.length ac, .slice bo G.length bc, .slice co P.length cc] 26)).alloc (.cells #[.string ⟨#[]⟩, .string ⟨#[]⟩, .string ⟨#[]⟩, .string ⟨#[]⟩, .int .i64 0, .slice none 0 0, .slice none 0 0, .slice none 0 0] 26)) w.heap.size 26 #[.string D, .string S, .string U, .string H, .int .i64 n, .slice ao F.length ac, .slice bo G.length bc, .slice co P.length cc] := (Blk.new w 26 #[.string D, .string S, .string U, .string H, .int .i64 n, .slice ao F.length ac, .slice bo G.length bc, .slice co P.length cc]).alloc _
  have bmU0 : Blk ((w.alloc (.cells #[.string D, .string S, .string U, .string H, .int .i64 n, .slice ao F.length ac, .slice bo G.length bc, .slice co P.length cc] 26)).alloc (.cells #[.string ⟨#[]⟩, .string ⟨#[]⟩, .string ⟨#[]⟩, .string ⟨#[]⟩, .int .i64 0, .slice none 0 0, .slice none 0 0, .slice none 0 0] 26)) (w.heap.size + 1) 26 #[.string ⟨#[]⟩, .string ⟨#[]⟩, .string ⟨#[]⟩, .string ⟨#[]⟩, .int .i64 0, .slice none 0 0, .slice none 0 0, .slice none 0 0] := by
    have := Blk.new (w.alloc (.cells #[.string D, .string S, .string U, .string H, .int .i64 n, .slice ao F.length ac, .slice bo G.length bc, .slice co P.length cc] 26)) 26 #[.string ⟨#[]⟩, .string ⟨#[]⟩, .string ⟨#[]⟩, .string ⟨#[]⟩, .int .i64 0, .slice none 0 0, .slice none 0 0, .slice none 0 0]
    rwa [World.size_alloc] at this
  have hs2 : ((w.alloc (.cells #[.string D, .string S, .string U, .string H, .int .i64 n, .slice ao F.length ac, .slice bo G.length bc, .slice co P.length cc] 26)).alloc (.cells #[.string ⟨#[]⟩, .string ⟨#[]⟩, .string ⟨#[]⟩, .string ⟨#[]⟩, .int .i64 0, .slice none 0 0, .slice none 0 0, .slice none 0 0] 26)).heap.size = w.heap.size + 2 := by rw [World.size_alloc, World.size_alloc]
  obtain ⟨w0, hw0⟩ : ∃ w0, w0 = ((w.alloc (.cells #[.string D, .string S, .string U, .string H, .int .i64 n, .slice ao F.length ac, .slice bo G.length bc, .slice co P.length cc] 26)).alloc (.cells #[.string ⟨#[]⟩, .string ⟨#[]⟩, .string ⟨#[]⟩, .string ⟨#[]⟩, .int .i64 0, .slice none 0 0, .slice none 0 0, .slice none 0 0] 26)) := ⟨_, rfl⟩
  rw [← hw0] at hZ0 bmR0 bmU0 hs2
  have HX := Lib.hid (fun (wx : World) (h : Below w0.heap.size w0 wx) => (show Blk wx w.heap.size 26 #[.string D, .string S, .string U, .string H, .int .i64 n, .slice ao F.length ac, .slice bo G.length bc, .slice co P.length cc] ∧ Blk wx (w.heap.size + 1) 26 #[.string ⟨#[]⟩, .string ⟨#[]⟩, .string ⟨#[]⟩, .string ⟨#[]⟩, .int .i64 0, .slice none 0 0, .slice none 0 0, .slice none 0 0] ∧ Below w.heap.size w wx ∧ RPrms wx (.slice ao F.length ac) F ∧ RPrms wx (.slice bo G.length bc) G ∧ RPrms wx (.slice co P.length cc) P from by
    have hx := hZ0.trans (h.mono hZ0.size)
    exact ⟨bmR0.call h, bmU0.call h, hx, HU1.out.below hx (Nat.le_refl _), HU2.out.below hx (Nat.le_refl _), HU3.out.below hx (Nat.le_refl _)⟩))
  have HW0 := Lib.hid hw0
  have HS2 := Lib.hid hs2
  have hZ : Below w0.heap.size w0 w0 := Below.refl _ _
  obtain ⟨bmR, bmU, hBB, hU1, hU2, hU3⟩ := HX.out _ hZ
  obtain ⟨p0, p1, p2, p3, p4, p5, p6, p7, q0, q1, q2, q3, q4, q5, q6, q7, zR⟩ := blkg8 bmR
  obtain ⟨m0, m1, m2, m3, m4, m5, m6, m7, f0, f1, f2, f3, f4, f5, f6, f7, zU⟩ := blkg8 bmU
  clear hw0 hZ0 bmR0 bmU0 hs2 HU1 HU2 HU3
  go_enter Tryz.func32, Tryz.ntmps32
  go_upto_region 2 with (go_at_call 34; rw [← HW0.out]; (refine (HCL.out _ hU1 hU2).mono ?_); rintro e wa ⟨v1, v2, rfl, R1, R2, hF1, hF2, hC1⟩; have hF1 := hF1.mono (show w.heap.size + 2 ≤ _ from HS2.out ▸ hZ.size); have hF2 := hF2.mono (show w.heap.size + 2 ≤ _ from HS2.out ▸ hZ.size); obtain ⟨a1, d1, rfl, _, _⟩ := R1.form; obtain ⟨a2, d2, rfl, _, _⟩ := R2.form; have hZ := hZ.trans (hC1.mono hZ.size); obtain ⟨bmR, bmU, hBB, hU1, hU2, hU3⟩ := HX.out _ hZ; obtain ⟨p0, p1, p2, p3, p4, p5, p6, p7, q0, q1, q2, q3, q4, q5, q6, q7, zR⟩ := blkg8 bmR; obtain ⟨m0, m1, m2, m3, m4, m5, m6, m7, f0, f1, f2, f3, f4, f5, f6, f7, zU⟩ := blkg8 bmU)
  replace hBB := hBB.setCell (p := ⟨w.heap.size, 1, none⟩) (Nat.le_refl _) (.string S)
  replace bmR : Blk _ w.heap.size 26 #[(.string D), (.string S), (.string U), (.string H), (.int .i64 n), (.slice ao F.length ac), (.slice bo G.length bc), (.slice co P.length cc)] := bmR.set_ 1 (.string S)
  replace bmU := bmU.far (p := ⟨w.heap.size, 1, none⟩) (show w.heap.size + 1 ≠ w.heap.size by omega) (.string S)
  replace R1 := R1.set hF1 (p := ⟨w.heap.size, 1, none⟩) (show w.heap.size < w.heap.size + 2 by omega) (.string S)
  replace R2 := R2.set hF2 (p := ⟨w.heap.size, 1, none⟩) (show w.heap.size < w.heap.size + 2 by omega) (.string S)
  replace hBB := hBB.setCell (p := ⟨w.heap.size, 2, none⟩) (Nat.le_refl _) (.string U)
  replace bmR : Blk _ w.heap.size 26 #[(.string D), (.string S), (.string U), (.string H), (.int .i64 n), (.slice ao F.length ac), (.slice bo G.length bc), (.slice co P.length cc)] := bmR.set_ 2 (.string U)
  replace bmU := bmU.far (p := ⟨w.heap.size, 2, none⟩) (show w.heap.size + 1 ≠ w.heap.size by omega) (.string U)
  replace R1 := R1.set hF1 (p := ⟨w.heap.size, 2, none⟩) (show w.heap.size < w.heap.size + 2 by omega) (.string U)
  replace R2 := R2.set hF2 (p := ⟨w.heap.size, 2, none⟩) (show w.heap.size < w.heap.size + 2 by omega) (.string U)
  replace hBB := hBB.setCell (p := ⟨w.heap.size, 3, none⟩) (Nat.le_refl _) (.string H)
  replace bmR : Blk _ w.heap.size 26 #[(.string D), (.string S), (.string U), (.string H), (.int .i64 n), (.slice ao F.length ac), (.slice bo G.length bc), (.slice co P.length cc)] := bmR.set_ 3 (.string H)
  replace bmU := bmU.far (p := ⟨w.heap.size, 3, none⟩) (show w.heap.size + 1 ≠ w.heap.size by omega) (.string H)
  replace R1 := R1.set hF1 (p := ⟨w.heap.size, 3, none⟩) (show w.heap.size < w.heap.size + 2 by omega) (.string H)
  replace R2 := R2.set hF2 (p := ⟨w.heap.size, 3, none⟩) (show w.heap.size < w.heap.size + 2 by omega) (.string H)
  replace hBB := hBB.setCell (p := ⟨w.heap.size, 4, none⟩) (Nat.le_refl _) (.int .i64 n)
  replace bmR : Blk _ w.heap.size 26 #[(.string D), (.string S), (.string U), (.string H), (.int .i64 n), (.slice ao F.length ac), (.slice bo G.length bc), (.slice co P.length cc)] := bmR.set_ 4 (.int .i64 n)
  replace bmU := bmU.far (p := ⟨w.heap.size, 4, none⟩) (show w.heap.size + 1 ≠ w.heap.size by omega) (.int .i64 n)
  replace R1 := R1.set hF1 (p := ⟨w.heap.size, 4, none⟩) (show w.heap.size < w.heap.size + 2 by omega) (.int .i64 n)
  replace R2 := R2.set hF2 (p := ⟨w.heap.size, 4, none⟩) (show w.heap.size < w.heap.size + 2 by omega) (.int .i64 n)
  replace hBB := hBB.setCell (p := ⟨w.heap.size, 5, none⟩) (Nat.le_refl _) (.slice a1 F.length d1)
  replace bmR : Blk _ w.heap.size 26 #[(.string D), (.string S), (.string U), (.string H), (.int .i64 n), (.slice a1 F.length d1), (.slice bo G.length bc), (.slice co P.length cc)] := bmR.set_ 5 (.slice a1 F.length d1)
  replace bmU := bmU.far (p := ⟨w.heap.size, 5, none⟩) (show w.heap.size + 1 ≠ w.heap.size by omega) (.slice a1 F.length d1)
  replace R1 := R1.set hF1 (p := ⟨w.heap.size, 5, none⟩) (show w.heap.size < w.heap.size + 2 by omega) (.slice a1 F.length d1)
  replace R2 := R2.set hF2 (p := ⟨w.heap.size, 5, none⟩) (show w.heap.size < w.heap.size + 2 by omega) (.slice a1 F.length d1)
  replace hBB := hBB.setCell (p := ⟨w.heap.size, 6, none⟩) (Nat.le_refl _) (.slice a2 G.length d2)
  replace bmR : Blk _ w.heap.size 26 #[(.string D), (.string S), (.string U), (.string H), (.int .i64 n), (.slice a1 F.length d1), (.slice a2 G.length d2), (.slice co P.length cc)] := bmR.set_ 6 (.slice a2 G.length d2)
  replace bmU := bmU.far (p := ⟨w.heap.size, 6, none⟩) (show w.heap.size + 1 ≠ w.heap.size by omega) (.slice a2 G.length d2)
  replace R1 := R1.set hF1 (p := ⟨w.heap.size, 6, none⟩) (show w.heap.size < w.heap.size + 2 by omega) (.slice a2 G.length d2)
  replace R2 := R2.set hF2 (p := ⟨w.heap.size, 6, none⟩) (show w.heap.size < w.heap.size + 2 by omega) (.slice a2 G.length d2)
  obtain ⟨w2, e2⟩ : ∃ x, x = ((((((wa.setCell ⟨w.heap.size, 1, none⟩ (.string S)).setCell ⟨w.heap.size, 2, none⟩ (.string U)).setCell ⟨w.heap.size, 3, none⟩ (.string H)).setCell ⟨w.heap.size, 4, none⟩ (.int .i64 n)).setCell ⟨w.heap.size, 5, none⟩ (.slice a1 F.length d1)).setCell ⟨w.heap.size, 6, none⟩ (.slice a2 G.length d2)) := ⟨_, rfl⟩
  rw [← e2] at hBB bmR bmU R1 R2
  have hU3 : RPrms w2 (.slice co P.length cc) P := by
    rw [e2]
    have hx : Below w.heap.size w ((((((wa.setCell ⟨w.heap.size, 1, none⟩ (.string S)).setCell ⟨w.heap.size, 2, none⟩ (.string U)).setCell ⟨w.heap.size, 3, none⟩ (.string H)).setCell ⟨w.heap.size, 4, none⟩ (.int .i64 n)).setCell ⟨w.heap.size, 5, none⟩ (.slice a1 F.length d1)).setCell ⟨w.heap.size, 6, none⟩ (.slice a2 G.length d2)) := by rw [← e2]; exact hBB
    exact HU3X.out.below hx (Nat.le_refl _)
  have ZW := Lib.hid (show w.heap.size + 2 ≤ w2.heap.size by have := hZ.size; rw [e2]; simp only [World.size_setCell]; rw [← HS2.out]; exact this)
  simp only [← e2]
  clear e2
  have HBM := Lib.hid bmR
  have HBU := Lib.hid bmU
  have HBBx := Lib.hid hBB
  have HR1 := Lib.hid R1
  have HR2 := Lib.hid R2
  have HY := Lib.hid (fun (wx : World) (h : Below w2.heap.size w2 wx) => (show Blk wx w.heap.size 26 #[.string D, .string S, .string U, .string H, .int .i64 n, .slice a1 F.length d1, .slice a2 G.length d2, .slice co P.length cc] ∧ Blk wx (w.heap.size + 1) 26 #[.string ⟨#[]⟩, .string ⟨#[]⟩, .string ⟨#[]⟩, .string ⟨#[]⟩, .int .i64 0, .slice none 0 0, .slice none 0 0, .slice none 0 0] ∧ Below w.heap.size w wx ∧ RPrms wx (.slice a1 F.length d1) F ∧ RPrms wx (.slice a2 G.length d2) G from
    ⟨HBM.out.call h, HBU.out.call h, HBBx.out.trans (h.mono HBBx.out.size), HR1.out.below h (Nat.le_refl _), HR2.out.below h (Nat.le_refl _)⟩))
  have hY : Below w2.heap.size w2 w2 := Below.refl _ _
  clear bmR bmU hBB R1 R2
  obtain ⟨bmR, bmU, hBB, R1, R2⟩ := HY.out _ hY
  obtain ⟨p0, p1, p2, p3, p4, p5, p6, p7, q0, q1, q2, q3, q4, q5, q6, q7, zR⟩ := blkg8 bmR
  obtain ⟨m0, m1, m2, m3, m4, m5, m6, m7, f0, f1, f2, f3, f4, f5, f6, f7, zU⟩ := blkg8 bmU
  go_wp2_with (first | (go_at_call 79; refine (HC3.out _ hU3).mono ?_; rintro e wb ⟨v3, rfl, hP3, hC3⟩; have hY := hC3; obtain ⟨bmR, bmU, hBB, R1, R2⟩ := HY.out _ hY; obtain ⟨p0, p1, p2, p3, p4, p5, p6, p7, q0, q1, q2, q3, q4, q5, q6, q7, zR⟩ := blkg8 bmR; obtain ⟨m0, m1, m2, m3, m4, m5, m6, m7, f0, f1, f2, f3, f4, f5, f6, f7, zU⟩ := blkg8 bmU) | (at_builtin; refine wpList_appP1 ⟨nTag, us T, true⟩ rfl rfl rfl rfl rfl Tryz.underlying22 infoP rfl rfl hP3 hC3 (Nat.le_refl _) ?_ ?_; (focus omega); intro v' w' hP4 hB4; have hY := hB4; have hF3 := hP4.fresh.mono (show w.heap.size + 2 ≤ _ from ZW.out); obtain ⟨a3, d3, rfl, _, _⟩ := hP4.read.form; have R3 := hP4.read; obtain ⟨bmR, bmU, hBB, R1, R2⟩ := HY.out _ hY; obtain ⟨p0, p1, p2, p3, p4, p5, p6, p7, q0, q1, q2, q3, q4, q5, q6, q7, zR⟩ := blkg8 bmR; obtain ⟨m0, m1, m2, m3, m4, m5, m6, m7, f0, f1, f2, f3, f4, f5, f6, f7, zU⟩ := blkg8 bmU))
  refine bodyPost_ret (v := .agg #[.string D, .string S, .string U, .string H, .int .i64 n, .slice a1 F.length d1, .slice a2 G.length d2, .slice a3 (P ++ [(⟨nTag, us T, true⟩ : Prm)]).length d3]) (by simp [results, Tryz.results32, go_sem, m0, m1, m2, m3, m4, m5, m6, m7]) rfl ?_
  exact ⟨_, _, _, rfl, (RPrms.set (RPrms.set (RPrms.set (RPrms.set (RPrms.set (RPrms.set (RPrms.set (RPrms.set (RPrms.set R1 hF1 (p := ⟨w.heap.size, 7, none⟩) (show w.heap.size < w.heap.size + 2 by omega) _) hF1 (p := ⟨w.heap.size + 1, 0, none⟩) (show w.heap.size + 1 < w.heap.size + 2 by omega) _) hF1 (p := ⟨w.heap.size + 1, 1, none⟩) (show w.heap.size + 1 < w.heap.size + 2 by omega) _) hF1 (p := ⟨w.heap.size + 1, 2, none⟩) (show w.heap.size + 1 < w.heap.size + 2 by omega) _) hF1 (p := ⟨w.heap.size + 1, 3, none⟩) (show w.heap.size + 1 < w.heap.size + 2 by omega) _) hF1 (p := ⟨w.heap.size + 1, 4, none⟩) (show w.heap.size + 1 < w.heap.size + 2 by omega) _) hF1 (p := ⟨w.heap.size + 1, 5, none⟩) (show w.heap.size + 1 < w.heap.size + 2 by omega) _) hF1 (p := ⟨w.heap.size + 1, 6, none⟩) (show w.heap.size + 1 < w.heap.size + 2 by omega) _) hF1 (p := ⟨w.heap.size + 1, 7, none⟩) (show w.heap.size + 1 < w.heap.size + 2 by omega) _), (RPrms.set (RPrms.set (RPrms.set (RPrms.set (RPrms.set (RPrms.set (RPrms.set (RPrms.set (RPrms.set R2 hF2 (p := ⟨w.heap.size, 7, none⟩) (show w.heap.size < w.heap.size + 2 by omega) _) hF2 (p := ⟨w.heap.size + 1, 0, none⟩) (show w.heap.size + 1 < w.heap.size + 2 by omega) _) hF2 (p := ⟨w.heap.size + 1, 1, none⟩) (show w.heap.size + 1 < w.heap.size + 2 by omega) _) hF2 (p := ⟨w.heap.size + 1, 2, none⟩) (show w.heap.size + 1 < w.heap.size + 2 by omega) _) hF2 (p := ⟨w.heap.size + 1, 3, none⟩) (show w.heap.size + 1 < w.heap.size + 2 by omega) _) hF2 (p := ⟨w.heap.size + 1, 4, none⟩) (show w.heap.size + 1 < w.heap.size + 2 by omega) _) hF2 (p := ⟨w.heap.size + 1, 5, none⟩) (show w.heap.size + 1 < w.heap.size + 2 by omega) _) hF2 (p := ⟨w.heap.size + 1, 6, none⟩) (show w.heap.size + 1 < w.heap.size + 2 by omega) _) hF2 (p := ⟨w.heap.size + 1, 7, none⟩) (show w.heap.size + 1 < w.heap.size + 2 by omega) _), (RPrms.set (RPrms.set (RPrms.set (RPrms.set (RPrms.set (RPrms.set (RPrms.set (RPrms.set (RPrms.set R3 hF3 (p := ⟨w.heap.size, 7, none⟩) (show w.heap.size < w.heap.size + 2 by omega) _) hF3 (p := ⟨w.heap.size + 1, 0, none⟩) (show w.heap.size + 1 < w.heap.size + 2 by omega) _) hF3 (p := ⟨w.heap.size + 1, 1, none⟩) (show w.heap.size + 1 < w.heap.size + 2 by omega) _) hF3 (p := ⟨w.heap.size + 1, 2, none⟩) (show w.heap.size + 1 < w.heap.size + 2 by omega) _) hF3 (p := ⟨w.heap.size + 1, 3, none⟩) (show w.heap.size + 1 < w.heap.size + 2 by omega) _) hF3 (p := ⟨w.heap.size + 1, 4, none⟩) (show w.heap.size + 1 < w.heap.size + 2 by omega) _) hF3 (p := ⟨w.heap.size + 1, 5, none⟩) (show w.heap.size + 1 < w.heap.size + 2 by omega) _) hF3 (p := ⟨w.heap.size + 1, 6, none⟩) (show w.heap.size + 1 < w.heap.size + 2 by omega) _) hF3 (p := ⟨w.heap.size + 1, 7, none⟩) (show w.heap.size + 1 < w.heap.size + 2 by omega) _), hF1.mono (by omega), hF2.mono (by omega), hF3.mono (by omega), (((((((((hBB.setCell (Nat.le_refl _) _).setCell (Nat.le_succ _) _).setCell (Nat.le_succ _) _).setCell (Nat.le_succ _) _).setCell (Nat.le_succ _) _).setCell (Nat.le_succ _) _).setCell (Nat.le_succ _) _).setCell (Nat.le_succ _) _).setCell (Nat.le_succ _) _)⟩

end Go.Proofs.YtipdiddjhimdcaaGreatDoor

namespace Go.Proofs.YtipdiddjhimdcaaGreatDoor
set_option linter.unusedSimpArgs false
set_option linter.unusedVariables false
open Go.RowKit

def setAll (cs : Array Value) : Nat → List Value → Array Value
  | _, [] => cs
  | i, v :: r => setAll (cs.setIfInBounds i v) (i + 1) r
theorem setAll_size : ∀ (vs : List Value) (cs : Array Value) (i : Nat), (setAll cs i vs).size = cs.size
  | [], _, _ => rfl
  | v :: r, cs, i => by rw [setAll, setAll_size r, Array.size_setIfInBounds]
theorem setCells_far (g : Nat) : ∀ (vs : List Value) (i : Nat) (w : World) (k : Nat), k ≠ g → (w.setCells g i vs).heap[k]? = w.heap[k]?
  | [], _, _, _, _ => rfl
  | v :: r, i, w, k, hk => by rw [World.setCells, setCells_far g r (i + 1) _ k hk, Below.heap_setCell _ _ _ _ hk]
theorem setCells_size (g : Nat) : ∀ (vs : List Value) (i : Nat) (w : World), (w.setCells g i vs).heap.size = w.heap.size
  | [], _, _ => rfl
  | v :: r, i, w => by rw [World.setCells, setCells_size g r, World.size_setCell]
theorem setCells_blk {g : Nat} {t : TypeId} : ∀ (vs : List Value) (i : Nat) (w : World) (cs : Array Value), Blk w g t cs → Blk (w.setCells g i vs) g t (setAll cs i vs)
  | [], _, _, _, h => h
  | v :: r, i, w, cs, h => setCells_blk r (i + 1) _ _ (h.set_ i v)
theorem setCells_below {B g : Nat} (hB : B ≤ g) : ∀ (vs : List Value) (i : Nat) (w w0 : World), Below B w0 w → Below B w0 (w.setCells g i vs)
  | [], _, _, _, h => h
  | v :: r, i, w, w0, h => setCells_below hB r (i + 1) _ _ (h.setCell hB v)
section
variable {P : Program} {ops : Array Oper} {rest : List Oper} {o : Oper} {a : Act} {Q : Exit → Act → World → Prop}
theorem wpList_storeB {w : World} {g off : Nat} {t T : TypeId} {cs vs cs' : Array Value} {p x : Operand}
    (hgd : o.guard = none) (ho : o.op = .store T p x) (hp : a.eval p = .pointer (some ⟨g, off, none⟩)) (hx : a.eval x = .agg vs) (hC : (P.info? T).map (·.size) = some vs.size)
    (hb : Blk w g t cs) (hsz : off + vs.size ≤ cs.size) (h1 : (vs.toList.all fun v => v.oneCell') = true) (hcs : setAll cs off vs.toList = cs')
    (h : ∀ w', Blk w' g t cs' → (∀ k, k ≠ g → w'.heap[k]? = w.heap[k]?) → w'.heap.size = w.heap.size → (∀ B, B ≤ g → Below B w w') → wpList P ops Q rest (a.put o.dst undef) w') :
    wpList P ops Q (o :: rest) a w := by
  obtain ⟨i, hi, his⟩ := Option.map_eq_some_iff.1 hC
  refine wpList_plain hgd fun K hK => ?_
  have hcell : ∀ j, j < vs.toList.length → (w.cell? ⟨g, off + 0 + j, none⟩).isSome = true := by
    intro j hj
    have hj' : off + j < cs.size := by simp at hj; omega
    have : w.cell? ⟨g, off + j, none⟩ = cs[off + j]? := boxedCell hb (off + j)
    rw [Nat.add_zero, this]; simp [hj']
  have hfree : ∀ j, j < vs.toList.length → w.frozen? ⟨g, off + 0 + j, none⟩ = false := fun j _ => boxedFree hb _
  have hrun := run_storeCells_cells (P := P) g off vs.toList 0 w hcell hfree (List.all_eq_true.1 h1)
  have hex : (execOp a.eval o).run P w = .ok .skip (w.setCells g off vs.toList) := by
    simp only [Nat.add_zero] at hrun
    simp [execOp, ho, hp, hx, Instr.storeAt, Instr.sureAddr, storeVar, sizeOf, typeInfo, hi, his, Value.cells, hrun, Result.andThen]
  unfold Oper.wp
  rw [hex]
  exact hK _ _ (h _ (hcs ▸ setCells_blk _ _ _ _ hb) (fun k hk => setCells_far g _ _ _ k hk) (setCells_size g _ _ _) (fun B hB => setCells_below hB _ _ _ _ (Below.refl _ _)))
theorem wpList_loadB {w : World} {g off : Nat} {t T : TypeId} {fs : Array Field} {cs vs : Array Value} {p : Operand}
    (hgd : o.guard = none) (ho : o.op = .load T p) (hp : a.eval p = .pointer (some ⟨g, off, none⟩)) (hA : P.underlying T = some (.struct fs)) (hC : (P.info? T).map (·.size) = some vs.size)
    (hb : Blk w g t cs) (hvs : vs.toList = (cs.toList.drop off).take vs.size)
    (h : wpList P ops Q rest (a.put o.dst (.agg vs)) w) : wpList P ops Q (o :: rest) a w := by
  obtain ⟨i, hi, his⟩ := Option.map_eq_some_iff.1 hC
  refine wpList_plain hgd fun K hK => ?_
  have hcell : ∀ j v, vs.toList[j]? = some v → w.cell? ((⟨g, off, none⟩ : Addr).add j) = some v := by
    intro j v hj
    have hlt : j < vs.size := by have := (List.getElem?_eq_some_iff.1 hj).1; simpa using this
    have e : w.cell? ⟨g, off + j, none⟩ = cs[off + j]? := boxedCell hb (off + j)
    rw [add_cell, e, ← hj, hvs, List.getElem?_take_of_lt hlt, List.getElem?_drop]
    simp
  have hrun := run_loadCells_list (P := P) w ⟨g, off, none⟩ vs.toList hcell
  have hex : (execOp a.eval o).run P w = .ok (.value (.agg vs)) w := by
    simp [execOp, ho, hp, Instr.loadAt, Instr.sureAddr, loadVar, isAgg, run_underlying hA, sizeOf, typeInfo, hi, his, hrun, Result.andThen]
    first | done | (simp at hrun; simp [hrun])
  unfold Oper.wp
  rw [hex]
  exact hK _ _ h
end

end Go.Proofs.YtipdiddjhimdcaaGreatDoor

namespace Go.Proofs.YtipdiddjhimdcaaGreatDoor
set_option linter.unusedSimpArgs false
set_option linter.unusedVariables false
open Go.RowKit Go.Sort

theorem whole (vs : Array Value) : vs.toList = (vs.toList.drop 0).take vs.size := by rw [List.drop_zero, List.take_of_length_le (by simp)]
theorem setAll_get : ∀ (l : List Value) (cs : Array Value) (i j : Nat), (setAll cs i l)[j]? = if i ≤ j ∧ j < i + l.length ∧ j < cs.size then l[j - i]? else cs[j]?
  | [], cs, i, j => by rw [setAll, if_neg]; simp; omega
  | v :: r, cs, i, j => by
    rw [setAll, setAll_get r, Array.size_setIfInBounds, Array.getElem?_setIfInBounds]
    by_cases h1 : i = j
    · subst h1
      rw [if_neg (by omega), if_pos rfl]
      by_cases h2 : i < cs.size
      · rw [if_pos h2, if_pos (by simp; omega)]; simp
      · rw [if_neg h2, if_neg (by omega)]; simp; omega
    · rw [if_neg h1]
      by_cases h2 : i + 1 ≤ j ∧ j < i + 1 + r.length ∧ j < cs.size
      · rw [if_pos h2, if_pos (by simp; omega), show j - i = (j - (i + 1)) + 1 by omega]; simp
      · rw [if_neg h2, if_neg (by simp; omega)]
theorem setAll_whole {cs vs : Array Value} (h : cs.size = vs.size) : setAll cs 0 vs.toList = vs := by
  apply Array.ext_getElem?
  intro j
  rw [setAll_get]
  by_cases hj : j < vs.size
  · rw [if_pos (by simp; omega)]; simp
  · rw [if_neg (by simp; omega), Array.getElem?_eq_none (by omega), Array.getElem?_eq_none (by omega)]

section
variable {P : Program} {w : World} {g : Nat} {t : TypeId}
theorem loadVar_blk {T : TypeId} {fs : Array Field} {vs : Array Value} (hA : P.underlying T = some (.struct fs)) (hC : (P.info? T).map (·.size) = some vs.size) (hb : Blk w g t vs) :
    (loadVar T ⟨g, 0, none⟩).run P w = .ok (.agg vs) w := by
  obtain ⟨i, hi, his⟩ := Option.map_eq_some_iff.1 hC
  have hcell : ∀ j v, vs.toList[j]? = some v → w.cell? ((⟨g, 0, none⟩ : Addr).add j) = some v := by
    intro j v hj
    have e : w.cell? ⟨g, 0 + j, none⟩ = vs[0 + j]? := boxedCell hb (0 + j)
    rw [add_cell, e, ← hj]
    simp
  have hrun := run_loadCells_list (P := P) w ⟨g, 0, none⟩ vs.toList hcell
  simp at hrun
  simp [loadVar, isAgg, run_underlying hA, sizeOf, typeInfo, hi, his, hrun, Result.andThen]
theorem results_ct {fn : Func} {a b : Tmp} {T : TypeId} {tmps : Array Value} {fs : Array Field} {vs : Array Value} {x : Value} (h : fn.results = #[.cell a T, .tmp b]) (hp : tmps.getD a undef = .pointer (some ⟨g, 0, none⟩)) (hx : tmps.getD b undef = x)
    (hA : P.underlying T = some (.struct fs)) (hC : (P.info? T).map (·.size) = some vs.size) (hb : Blk w g t vs) : (results fn tmps).run P w = .ok (.tuple #[.agg vs, x]) w := by
  have hl := loadVar_blk hA hC hb
  rw [Array.getD_eq_getD_getElem?] at hp hx
  simp [results, h, hp, hx, asAddr, hl, Result.andThen]
theorem results_c {fn : Func} {a : Tmp} {T : TypeId} {tmps : Array Value} {fs : Array Field} {vs : Array Value} (h : fn.results = #[.cell a T]) (hp : tmps.getD a undef = .pointer (some ⟨g, 0, none⟩))
    (hA : P.underlying T = some (.struct fs)) (hC : (P.info? T).map (·.size) = some vs.size) (hb : Blk w g t vs) : (results fn tmps).run P w = .ok (.agg vs) w := by
  have hl := loadVar_blk hA hC hb
  rw [Array.getD_eq_getD_getElem?] at hp
  simp [results, h, hp, asAddr, hl, Result.andThen]
end

/-- a dialog as a row -/
theorem RDlg.row {w : World} {v : Value} {d : Dlg} (h : RDlg w v d) : ∃ vs : Array Value, v = .agg vs ∧ vs.size = 26 ∧ (vs.toList.all fun v => v.oneCell') = true ∧ vs[24]? = some (.int .i64 d.lin) ∧ vs[25]? = some (.int .i64 d.lout) ∧ RDlg w (.agg vs) d := by
  have h' := h
  obtain ⟨u1, u2, u3, u4, u5, u6, u7, u8, u9, rfl, h1, h2, h3, h4, h5, h6, h7, h8, h9⟩ := h
  obtain ⟨_, _, rfl, _⟩ := h1.form
  obtain ⟨_, _, rfl, _⟩ := h2.form
  obtain ⟨_, _, rfl, _⟩ := h3.form
  obtain ⟨_, _, rfl, _⟩ := h4.form
  obtain ⟨_, _, rfl, _⟩ := h5.form
  obtain ⟨_, _, rfl, _⟩ := h6.form
  obtain ⟨_, _, rfl, _⟩ := h7.form
  obtain ⟨_, _, rfl, _⟩ := h8.form
  obtain ⟨_, _, rfl, _⟩ := h9.form
  exact ⟨_, rfl, rfl, rfl, rfl, rfl, h'⟩
theorem RDlg.setLin {w : World} {vs : Array Value} {d : Dlg} (h : RDlg w (.agg vs) d) (n : Int) : RDlg w (.agg (vs.setIfInBounds 24 (.int .i64 n))) ⟨d.call, d.loc, d.rem, d.tgt, d.routes, n, d.lout⟩ := by
  obtain ⟨u1, u2, u3, u4, u5, u6, u7, u8, u9, e, h1, h2, h3, h4, h5, h6, h7, h8, h9⟩ := h
  injection e with e
  subst e
  exact ⟨u1, u2, u3, u4, u5, u6, u7, u8, u9, rfl, h1, h2, h3, h4, h5, h6, h7, h8, h9⟩
theorem RDlg.setTgt {w : World} {vs : Array Value} {d : Dlg} (h : RDlg w (.agg vs) d) (u : Uri) {q1 q2 : Value} (g1 : RPrms w q1 u.ps) (g2 : RPrms w q2 u.hs) :
    RDlg w (.agg (setAll vs 17 [.string (bs u.scheme), .string (bs u.user), .string (bs u.host), .int .i64 u.port, q1, q2])) ⟨d.call, d.loc, d.rem, u, d.routes, d.lin, d.lout⟩ := by
  obtain ⟨u1, u2, u3, u4, u5, u6, u7, u8, u9, e, h1, h2, h3, h4, h5, h6, h7, h8, h9⟩ := h
  injection e with e
  subst e
  exact ⟨u1, u2, u3, u4, u5, u6, q1, q2, u9, by kernel_rfl, h1, h2, h3, h4, h5, h6, g1, g2, h9⟩
/-- a request as a row -/
theorem RReq.row {w : World} {v : Value} {r : Rq} (h : RReq w v r) : ∃ rs : Array Value, v = .agg rs ∧ rs.size = 38 ∧ rs[25]? = some (.string (bs r.fromT)) ∧ rs[26]? = some (.string (bs r.toT)) ∧ rs[27]? = some (.string (bs r.call)) ∧ rs[28]? = some (.int .i64 r.seq) ∧
    (∃ a c, rs[32]? = some (.slice a r.contact.length c) ∧ RAdrs w (.slice a r.contact.length c) r.contact) ∧ RReq w (.agg rs) r := by
  have h' := h
  obtain ⟨c0, c1, c2, c3, c4, c5, c6, c7, c8, c9, c10, c11, c12, c13, c14, c15, u1, u2, u3, u4, u5, u6, u7, u8, rfl, h1, h2, h3, h4, h5, h6, h7, h8⟩ := h
  obtain ⟨a, c, rfl, _⟩ := h7.form
  exact ⟨_, rfl, rfl, rfl, rfl, rfl, rfl, ⟨a, c, rfl, h7⟩, h'⟩
theorem RReq.setTo {w : World} {rs : Array Value} {r : Rq} (h : RReq w (.agg rs) r) (t : List UInt8) : RReq w (.agg (rs.setIfInBounds 26 (.string (bs t)))) ⟨r.fr, r.dst, r.fromT, t, r.call, r.seq, r.contact, r.routes⟩ := by
  obtain ⟨c0, c1, c2, c3, c4, c5, c6, c7, c8, c9, c10, c11, c12, c13, c14, c15, u1, u2, u3, u4, u5, u6, u7, u8, e, h1⟩ := h
  injection e with e
  subst e
  exact ⟨c0, c1, c2, c3, c4, c5, c6, c7, c8, c9, c10, c11, c12, c13, c14, c15, u1, u2, u3, u4, u5, u6, u7, u8, rfl, h1⟩
theorem RReq.setSeq {w : World} {rs : Array Value} {r : Rq} (h : RReq w (.agg rs) r) (n : Int) : RReq w (.agg (rs.setIfInBounds 28 (.int .i64 n))) ⟨r.fr, r.dst, r.fromT, r.toT, r.call, n, r.contact, r.routes⟩ := by
  obtain ⟨c0, c1, c2, c3, c4, c5, c6, c7, c8, c9, c10, c11, c12, c13, c14, c15, u1, u2, u3, u4, u5, u6, u7, u8, e, h1⟩ := h
  injection e with e
  subst e
  exact ⟨c0, c1, c2, c3, c4, c5, c6, c7, c8, c9, c10, c11, c12, c13, c14, c15, u1, u2, u3, u4, u5, u6, u7, u8, rfl, h1⟩

/-! ### slices that do not lie in a given block -/
def Off (g : Nat) (v : Value) : Prop := ∀ b off p n c, v = .slice (some ⟨b, off, p⟩) n c → n ≠ 0 → b ≠ g
def DOff (g : Nat) (vs : Array Value) : Prop := ∀ x ∈ vs.toList, Off g x
theorem Off.str (g : Nat) (s : ByteArray) : Off g (.string s) := fun _ _ _ _ _ h => by cases h
theorem Off.int (g : Nat) (n : Int) : Off g (.int .i64 n) := fun _ _ _ _ _ h => by cases h
theorem Off.fresh {v : Value} {g B : Nat} (h : Fresh B v) (hg : g < B) : Off g v := by
  intro b off p n c e _
  have := h _ _ _ e
  dsimp only at this
  omega
theorem Off.prms {w w' : World} {v : Value} {L : List Prm} {g : Nat} (h : RPrms w v L) (ho : Off g v) (hh : ∀ k, k ≠ g → w'.heap[k]? = w.heap[k]?) (hs : w.heap.size ≤ w'.heap.size) : RPrms w' v L := by
  rcases h with h | ⟨b, off, cap, h1, h2, h2', h3, h4⟩
  · exact .inl h
  · by_cases hL : L.length = 0
    · exact .inl ⟨⟨_, _, by rw [h1, hL]⟩, List.length_eq_zero_iff.1 hL⟩
    have hb : b ≠ g := ho _ _ _ _ _ h1 hL
    have hc : ∀ o, w'.cell? ⟨b, o, none⟩ = w.cell? ⟨b, o, none⟩ := fun o => World.cell?_of_block (w := w) (a := ⟨b, o, none⟩) (hh b hb)
    refine .inr ⟨b, off, cap, h1, h2, h2', Nat.lt_of_lt_of_le h3 hs, fun j hj => ?_⟩
    rw [hc, hc, hc]; exact h4 j hj
theorem mem_setAll : ∀ (l : List Value) (cs : Array Value) (i : Nat) (x : Value), x ∈ (setAll cs i l).toList → x ∈ cs.toList ∨ x ∈ l
  | [], _, _, _, h => .inl h
  | v :: r, cs, i, x, h => by
    rcases mem_setAll r _ _ _ h with h | h
    · rw [Array.toList_setIfInBounds] at h
      rcases List.mem_or_eq_of_mem_set h with g | rfl
      · exact .inl g
      · exact .inr (List.mem_cons_self ..)
    · exact .inr (List.mem_cons_of_mem _ h)
theorem DOff.set {g : Nat} {vs : Array Value} (h : DOff g vs) (i : Nat) {x : Value} (hx : Off g x) : DOff g (vs.setIfInBounds i x) := by
  intro y hy
  rcases mem_setAll [x] vs i y hy with e | e
  · exact h y e
  · rw [List.mem_singleton.1 e]; exact hx
theorem DOff.setAll {g : Nat} {vs : Array Value} (h : DOff g vs) (i : Nat) {l : List Value} (hl : ∀ x ∈ l, Off g x) : DOff g (setAll vs i l) := by
  intro y hy
  rcases mem_setAll l vs i y hy with e | e
  · exact h y e
  · exact hl y e

theorem alloc_setRow (w : World) (cs vs : Array Value) (t : TypeId) : (w.alloc (.cells cs t)).setRow w.heap.size vs = w.alloc (.cells vs t) := by
  unfold World.setRow World.alloc
  congr 1
  apply Array.ext_getElem?
  intro j
  simp only [Array.getElem?_modify, Array.getElem?_push]
  by_cases hj : w.heap.size = j
  · subst hj; simp
  · simp [hj]; try (split <;> first | rfl | (exfalso; omega))
section
variable {P : Program} {ops : Array Oper} {rest : List Oper} {o : Oper} {a : Act} {Q : Exit → Act → World → Prop} {w : World} {t : TypeId}
def Hold (p : Prop) : Prop := p
theorem holdStore (T : TypeId) {p x : Operand} (ho : o.op = .store T p x) (h : Hold (wpList P ops Q (o :: rest) a w)) : wpList P ops Q (o :: rest) a w := h
theorem holdLoad (T : TypeId) {p : Operand} (ho : o.op = .load T p) (h : Hold (wpList P ops Q (o :: rest) a w)) : wpList P ops Q (o :: rest) a w := h
/-- a struct stored whole into a variable that was laid just now -/
theorem wpList_storeNew {cs vs : Array Value} {T : TypeId} {p x : Operand} (hgd : o.guard = none) (ho : o.op = .store T p x) (hp : a.eval p = .pointer (some ⟨w.heap.size, 0, none⟩)) (hx : a.eval x = .agg vs)
    (hC : (P.info? T).map (·.size) = some vs.size) (hold : cs.size = vs.size) (h1 : (vs.toList.all fun v => v.oneCell') = true)
    (h : wpList P ops Q rest (a.put o.dst undef) (w.alloc (.cells vs t))) : wpList P ops Q (o :: rest) a (w.alloc (.cells cs t)) := by
  refine wpList_store_row hgd T p x ho w.heap.size vs hp hx t cs (heap_alloc_new w _) hC hold (by rw [← h1]; simp) ?_
  rw [alloc_setRow]
  exact h
theorem setRow_far (w : World) (g : Nat) (vs : Array Value) (k : Nat) (hk : k ≠ g) : (w.setRow g vs).heap[k]? = w.heap[k]? := by
  unfold World.setRow
  simp [Array.getElem?_modify, Ne.symm hk]
theorem setRow_size (w : World) (g : Nat) (vs : Array Value) : (w.setRow g vs).heap.size = w.heap.size := by
  unfold World.setRow; simp
theorem Below.setRow {B : Nat} {w0 : World} (h : Below B w0 w) {g : Nat} (hg : B ≤ g) (vs : Array Value) : Below B w0 (w.setRow g vs) :=
  ⟨h.os, h.tape, h.output, by rw [setRow_size]; exact h.size, fun k hk => (setRow_far w g vs k (by omega)).trans (h.block k hk)⟩
theorem Blk.row {g : Nat} {cs : Array Value} (h : Blk w g t cs) (vs : Array Value) : Blk (w.setRow g vs) g t vs := setRow_heap w g cs vs t (0, 0) h
end

end Go.Proofs.YtipdiddjhimdcaaGreatDoor

namespace Go.Proofs.YtipdiddjhimdcaaGreatDoor
set_option linter.unusedSimpArgs false
set_option linter.unusedVariables false
open Go.RowKit Go.Sort


/-- a request's cells, one by one -/
theorem RReq.lit {w : World} {v : Value} {r : Rq} (h : RReq w v r) : ∃ c0 c1 c2 c3 c4 c5 c6 c7 c8 c9 c10 c11 c12 c13 c14 c15 e1 y1 e2 y2 e3 y3 e4 y4 e5 y5 e6 y6 e7 y7 e8 y8, v = .agg #[c0, c1, c2, c3, c4, c5, c6, c7, c8, .string (bs r.fr.disp), .string (bs r.fr.uri.scheme), .string (bs r.fr.uri.user), .string (bs r.fr.uri.host), .int .i64 r.fr.uri.port, .slice e1 r.fr.uri.ps.length y1, .slice e2 r.fr.uri.hs.length y2, .slice e3 r.fr.ps.length y3, .string (bs r.dst.disp), .string (bs r.dst.uri.scheme), .string (bs r.dst.uri.user), .string (bs r.dst.uri.host), .int .i64 r.dst.uri.port, .slice e4 r.dst.uri.ps.length y4, .slice e5 r.dst.uri.hs.length y5, .slice e6 r.dst.ps.length y6, .string (bs r.fromT), .string (bs r.toT), .string (bs r.call), .int .i64 r.seq, c9, c10, c11, .slice e7 r.contact.length y7, .slice e8 r.routes.length y8, c12, c13, c14, c15] ∧ RPrms w (.slice e1 r.fr.uri.ps.length y1) r.fr.uri.ps ∧ RPrms w (.slice e2 r.fr.uri.hs.length y2) r.fr.uri.hs ∧ RPrms w (.slice e3 r.fr.ps.length y3) r.fr.ps ∧ RPrms w (.slice e4 r.dst.uri.ps.length y4) r.dst.uri.ps ∧ RPrms w (.slice e5 r.dst.uri.hs.length y5) r.dst.uri.hs ∧ RPrms w (.slice e6 r.dst.ps.length y6) r.dst.ps ∧ RAdrs w (.slice e7 r.contact.length y7) r.contact ∧ RStrs w (.slice e8 r.routes.length y8) r.routes := by
  obtain ⟨c0, c1, c2, c3, c4, c5, c6, c7, c8, c9, c10, c11, c12, c13, c14, c15, u1, u2, u3, u4, u5, u6, u7, u8, rfl, h1, h2, h3, h4, h5, h6, h7, h8⟩ := h
  obtain ⟨e1, y1, rfl, _⟩ := h1.form
  obtain ⟨e2, y2, rfl, _⟩ := h2.form
  obtain ⟨e3, y3, rfl, _⟩ := h3.form
  obtain ⟨e4, y4, rfl, _⟩ := h4.form
  obtain ⟨e5, y5, rfl, _⟩ := h5.form
  obtain ⟨e6, y6, rfl, _⟩ := h6.form
  obtain ⟨e7, y7, rfl, _⟩ := h7.form
  obtain ⟨e8, y8, rfl, _⟩ := h8.form
  exact ⟨c0, c1, c2, c3, c4, c5, c6, c7, c8, c9, c10, c11, c12, c13, c14, c15, e1, y1, e2, y2, e3, y3, e4, y4, e5, y5, e6, y6, e7, y7, e8, y8, rfl, h1, h2, h3, h4, h5, h6, h7, h8⟩
theorem RStrs.emp (w : World) : RStrs w (.slice none 0 0) [] := .inl ⟨⟨_, _, rfl⟩, rfl, rfl⟩
theorem RDlg.zero (w : World) : RDlg w (.agg #[(.string ⟨#[]⟩), (.string ⟨#[]⟩), (.string ⟨#[]⟩), (.string ⟨#[]⟩), (.string ⟨#[]⟩), (.int .i64 0), (.slice none 0 0), (.slice none 0 0), (.slice none 0 0), (.string ⟨#[]⟩), (.string ⟨#[]⟩), (.string ⟨#[]⟩), (.string ⟨#[]⟩), (.int .i64 0), (.slice none 0 0), (.slice none 0 0), (.slice none 0 0), (.string ⟨#[]⟩), (.string ⟨#[]⟩), (.string ⟨#[]⟩), (.int .i64 0), (.slice none 0 0), (.slice none 0 0), (.slice none 0 0), (.int .i64 0), (.int .i64 0)]) dlg0 :=
  ⟨_, _, _, _, _, _, _, _, _, rfl, RPrms.emp w, RPrms.emp w, RPrms.emp w, RPrms.emp w, RPrms.emp w, RPrms.emp w, RPrms.emp w, RPrms.emp w, RStrs.emp w⟩
def AdrB (a : Adr) : Prop := a.disp.length ≤ 4294967280 ∧ a.uri.scheme.length ≤ 4294967280 ∧ a.uri.host.length ≤ 4294967280 ∧ (∀ p ∈ a.uri.ps, p.name.length ≤ 4294967280 ∧ p.value.length ≤ 4294967280) ∧ (∀ p ∈ a.uri.hs, p.name.length ≤ 4294967280 ∧ p.value.length ≤ 4294967280) ∧ (∀ p ∈ a.ps, p.name.length ≤ 4294967280 ∧ p.value.length ≤ 4294967280) ∧
  a.uri.ps.length ≤ 1099511627776 ∧ a.uri.hs.length ≤ 1099511627776 ∧ a.ps.length ≤ 1099511627776
def RqB (r : Rq) : Prop := AdrB r.fr ∧ AdrB r.dst ∧ (∀ c ∈ r.contact, c.uri.ps.length ≤ 1099511627776 ∧ c.uri.hs.length ≤ 1099511627776) ∧ r.routes.length ≤ 1099511627776 ∧ r.toT.length ≤ 4294967280 ∧ r.fromT.length ≤ 4294967280
theorem beginS_cases (r : Rq) (t : List UInt8) :
    (r.toT ≠ [] ∧ beginS r t = (dlg0, 1)) ∨ (r.toT = [] ∧ r.fromT = [] ∧ beginS r t = (dlg0, 1)) ∨ (r.toT = [] ∧ r.fromT ≠ [] ∧ token t = false ∧ beginS r t = (dlg0, 1)) ∨
    (r.toT = [] ∧ r.fromT ≠ [] ∧ token t = true ∧ r.contact.length ≠ 1 ∧ beginS r t = (dlg0, 100)) ∨
    (r.toT = [] ∧ r.fromT ≠ [] ∧ token t = true ∧ ∃ c, r.contact = [c] ∧ ((checkA (taggedS r.dst t) ≠ 0 ∧ beginS r t = (dlg0, checkA (taggedS r.dst t))) ∨ (checkA (taggedS r.dst t) = 0 ∧ beginS r t = (⟨r.call, taggedS r.dst t, r.fr, c.uri, r.routes, r.seq, 0⟩, 0)))) := by
  unfold beginS
  by_cases h1 : r.toT = []
  · by_cases h2 : r.fromT = []
    · exact .inr (.inl ⟨h1, h2, if_pos (.inr (.inl h2))⟩)
    · cases h3 : token t
      · exact .inr (.inr (.inl ⟨h1, h2, rfl, if_pos (.inr (.inr rfl))⟩))
      · have hn : ¬ (r.toT ≠ [] ∨ r.fromT = [] ∨ true = false) := by rintro (h | h | h); exact h h1; exact h2 h; cases h
        rw [if_neg hn]
        match hc : r.contact with
        | [] => exact .inr (.inr (.inr (.inl ⟨h1, h2, rfl, by simp, rfl⟩)))
        | a :: b :: l => exact .inr (.inr (.inr (.inl ⟨h1, h2, rfl, by simp, rfl⟩)))
        | [c] =>
          refine .inr (.inr (.inr (.inr ⟨h1, h2, rfl, c, rfl, ?_⟩)))
          by_cases h4 : checkA (taggedS r.dst t) = 0
          · exact .inr ⟨h4, by dsimp only; rw [if_pos h4]⟩
          · exact .inl ⟨h4, by dsimp only; rw [if_neg h4]⟩
  · exact .inl ⟨h1, if_pos (.inl h1)⟩
def isBool : Value → Bool
  | .bool _ => true
  | _ => false
theorem Off.noBool {w : World} {v : Value} {L : List Prm} {g : Nat} {t : TypeId} {cs : Array Value} (h : RPrms w v L) (hb : Blk w g t cs) (hn : (cs.toList.all fun x => !isBool x) = true) : Off g v := by
  intro b off p n c e hne hbg
  rcases h with ⟨⟨ao, cap, rfl⟩, _⟩ | ⟨b', off', cap, rfl, _, _, h3, h4⟩
  · injection e with _ e _; exact hne e.symm
  · injection e with e en _
    injection e with e
    injection e with e1 e2 _
    have hL : 0 < L.length := by omega
    have hc := (h4 0 hL).2.2
    subst e1 hbg
    rw [show w.cell? ⟨b', off' + 0 * 3 + 2, none⟩ = cs[off' + 0 * 3 + 2]? from boxedCell hb _] at hc
    rw [List.all_eq_true] at hn
    have := hn _ (List.mem_of_getElem? (by rw [Array.getElem?_toList]; exact hc))
    simp [isBool] at this
theorem Off.strs {w w' : World} {v : Value} {L : List (List UInt8)} {g : Nat} (h : RStrs w v L) (ho : Off g v) (hh : ∀ k, k ≠ g → w'.heap[k]? = w.heap[k]?) (hs : w.heap.size ≤ w'.heap.size) : RStrs w' v L := by
  rcases h with h | ⟨b, off, cap, h1, h2, h2', h3, h4⟩
  · exact .inl h
  · by_cases hL : L.length = 0
    · exact .inl ⟨⟨_, _, by rw [h1, hL]⟩, hL, by rw [List.length_eq_zero_iff.1 hL]; rfl⟩
    have hb : b ≠ g := ho _ _ _ _ _ h1 hL
    have hc : ∀ o, w'.cell? ⟨b, o, none⟩ = w.cell? ⟨b, o, none⟩ := fun o => World.cell?_of_block (w := w) (a := ⟨b, o, none⟩) (hh b hb)
    refine .inr ⟨b, off, cap, h1, h2, h2', Nat.lt_of_lt_of_le h3 hs, fun j u hj => ?_⟩
    rw [hc]; exact h4 j u hj
theorem Off.oldS {w : World} {v : Value} {L : List (List UInt8)} {g : Nat} (h : RStrs w v L) (hg : w.heap.size ≤ g) : Off g v := by
  intro b off p n c e hn
  rcases h with ⟨⟨ao, cap, rfl⟩, _⟩ | ⟨b', off', cap, rfl, _, _, h3, _⟩
  · injection e with _ e _; exact absurd e.symm hn
  · injection e with e _ _; injection e with e; injection e with e _ _; omega
theorem Blk.drw {w : World} {g : Nat} {t : TypeId} {cs : Array Value} (h : Blk w g t cs) : Blk w.drew g t cs := h
theorem zUp {B : Nat} {w w1 w2 : World} (h : Below B w w1) (hs : B ≤ w1.heap.size) (hC : Below w1.heap.size w1 w2) : Below B w w2 := h.trans (hC.mono hs)
theorem zDrew {B : Nat} {w w' : World} (h : Below B w w') : Below B w w'.drew := ⟨h.os, h.tape, h.output, h.size, h.block⟩

end Go.Proofs.YtipdiddjhimdcaaGreatDoor

namespace Go.Proofs.YtipdiddjhimdcaaGreatDoor
set_option linter.unusedSimpArgs false
set_option linter.unusedVariables false
open Go.RowKit Go.Sort


def fewA (a : Adr) : Bool := decide (a.ps.length ≤ 60) && decide (a.uri.ps.length ≤ 60) && decide (a.uri.hs.length ≤ 60)
def smallR (r : Rq) : Bool := fewA r.fr && fewA r.dst && decide (r.routes.length + sumJ r.routes ≤ 5000) && (match r.contact with | [c] => fewA c | _ => true)
set_option maxHeartbeats 3200000 in
theorem few_c (D S U H : ByteArray) (n : Int) (u1 u2 u3 : Value) (F G P : List Prm) (w : World) (h1 : RPrms w u1 F) (h2 : RPrms w u2 G) (h3 : RPrms w u3 P) :
    Calls Tryz.prog 28 #[.agg #[.string D, .string S, .string U, .string H, .int .i64 n, u1, u2, u3]] w fun e w' => e = .returned (.bool (decide (P.length ≤ 60) && decide (F.length ≤ 60) && decide (G.length ≤ 60))) ∧ Below w.heap.size w w' := by
  obtain ⟨a1, f1, rfl, m1, _⟩ := h1.form
  obtain ⟨a2, f2, rfl, m2, _⟩ := h2.form
  obtain ⟨a3, f3, rfl, m3, _⟩ := h3.form
  unfold maxLen at m1 m2 m3
  have hB : Below w.heap.size w (w.alloc (.cells #[.string D, .string S, .string U, .string H, .int .i64 n, .slice a1 F.length f1, .slice a2 G.length f2, .slice a3 P.length f3] 26)) := (Below.refl _ _).alloc (Nat.le_refl _) _
  clear h1 h2 h3
  by_cases l1 : P.length ≤ 60
  · have t1 : decide ((P.length : Int) ≤ 60) = true := by simp; omega
    have s1 : decide (P.length ≤ 60) = true := by simpa using l1
    clear l1
    by_cases l2 : F.length ≤ 60
    · have t2 : decide ((F.length : Int) ≤ 60) = true := by simp; omega
      have s2 : decide (F.length ≤ 60) = true := by simpa using l2
      clear l2
      by_cases l3 : G.length ≤ 60
      · have t3 : decide ((G.length : Int) ≤ 60) = true := by simp; omega
        have s3 : decide (G.length ≤ 60) = true := by simpa using l3
        clear l3
        go_enter Tryz.func28, Tryz.ntmps28
        go_wp2
        go_ret
        exact ⟨by rw [s1, s2, s3]; rfl, hB⟩
      · have t3 : decide ((G.length : Int) ≤ 60) = false := by simp; omega
        have s3 : decide (G.length ≤ 60) = false := by simpa using l3
        clear l3
        go_enter Tryz.func28, Tryz.ntmps28
        go_wp2
        go_ret
        exact ⟨by rw [s1, s2, s3]; rfl, hB⟩
    · have t2 : decide ((F.length : Int) ≤ 60) = false := by simp; omega
      have s2 : decide (F.length ≤ 60) = false := by simpa using l2
      clear l2
      go_enter Tryz.func28, Tryz.ntmps28
      go_wp2
      go_ret
      exact ⟨by rw [s1, s2]; rfl, hB⟩
  · have t1 : decide ((P.length : Int) ≤ 60) = false := by simp; omega
    have s1 : decide (P.length ≤ 60) = false := by simpa using l1
    clear l1
    go_enter Tryz.func28, Tryz.ntmps28
    go_wp2
    go_ret
    exact ⟨by rw [s1]; rfl, hB⟩

end Go.Proofs.YtipdiddjhimdcaaGreatDoor

