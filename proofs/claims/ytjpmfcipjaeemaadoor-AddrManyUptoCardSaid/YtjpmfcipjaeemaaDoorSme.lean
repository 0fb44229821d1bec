/-
  addr.Tag; rosterref03.Same and rosterref05.Same where all that is read is equal.
-/
import Derived.Test.YtjpmfcipjaeemaaDoorAck
namespace Go.Proofs.YtjpmfcipjaeemaaDoor
set_option linter.unusedSimpArgs false
set_option linter.unusedVariables false
open Go.RowKit

set_option maxHeartbeats 3200000 in
theorem tagA_c (D S U H : ByteArray) (n : Int) (u1 u2 u3 : Value) (F G P : List Prm) (w : World) (h3 : RPrms w u3 P) (hb : ∀ p ∈ P, p.name.length ≤ 4294967280) (f1 : ∃ ao c, u1 = .slice ao F.length c) (f2 : ∃ ao c, u2 = .slice ao G.length c) :
    Calls Tryd.prog 19 #[.agg #[.string D, .string S, .string U, .string H, .int .i64 n, u1, u2, u3]] w fun e w' => e = .returned (.string (bs (value P nTag).1)) ∧ Below w.heap.size w w' := by
  have HU := Lib.hid h3
  obtain ⟨ao, ac, rfl⟩ := f1
  obtain ⟨bo, bc, rfl⟩ := f2
  obtain ⟨co, cc, rfl, _, _⟩ := h3.form
  clear h3
  have HV := Lib.hid (fun wx hv => value_c (.slice co P.length cc) P ⟨#[116, 97, 103]⟩ (by decide) wx hv (fun p hp => by have := hb p hp; omega))
  rw [show us ⟨#[116, 97, 103]⟩ = nTag from rfl] at HV
  obtain ⟨q, hq⟩ : ∃ q, q = value P nTag := ⟨_, rfl⟩
  rw [← hq] at HV ⊢
  clear hq hb
  have hZ := (Below.refl w.heap.size w).alloc (Nat.le_refl _) (.cells #[.string D, .string S, .string U, .string H, .int .i64 n, .slice ao F.length ac, .slice bo G.length bc, .slice co P.length cc] 39)
  go_enter Tryd.func19, Tryd.ntmps19
  go_wp2_with (go_at_call 42; refine (HV.out _ (HU.out.below hZ (Nat.le_refl _))).mono ?_; rintro e w1 ⟨rfl, hC1⟩; have hZ := hZ.trans (hC1.mono hZ.size))
  go_ret
  exact ⟨rfl, hZ⟩

set_option maxRecDepth 100000 in
set_option maxHeartbeats 6400000 in
theorem same3_yes (S U H : ByteArray) (n : Int) (u1 u2 v1 v2 : Value) (F G : List Prm) (w : World) (h1 : RPrms w u1 F) (h2 : RPrms w u2 G) (h3 : RPrms w v1 F) (h4 : RPrms w v2 G) :
    Calls Tryd.prog 41 #[.agg #[.string S, .string U, .string H, .int .i64 n, u1, u2], .agg #[.string S, .string U, .string H, .int .i64 n, v1, v2]] w fun e w' => e = .returned (.bool true) ∧ Below w.heap.size w w' := by
  have H1 := Lib.hid h1
  have H2 := Lib.hid h2
  have H3 := Lib.hid h3
  have H4 := Lib.hid h4
  obtain ⟨ao, ac, rfl, _, _⟩ := h1.form
  obtain ⟨bo, bc, rfl, _, _⟩ := h2.form
  obtain ⟨co, cc, rfl, _, _⟩ := h3.form
  obtain ⟨do_, dc, rfl, _, _⟩ := h4.form
  clear h1 h2 h3 h4
  have HL1 := Lib.hid (fun wx hx hy => lists_c (.slice ao F.length ac) (.slice co F.length cc) F F wx hx hy)
  have HL2 := Lib.hid (fun wx hx hy => lists_c (.slice bo G.length bc) (.slice do_ G.length dc) G G wx hx hy)
  rw [show (F == F) = true by simp] at HL1
  rw [show (G == G) = true by simp] at HL2
  have hB0 : Below w.heap.size w ((w.alloc (.cells #[.string S, .string U, .string H, .int .i64 n, .slice ao F.length ac, .slice bo G.length bc] 37)).alloc (.cells #[.string S, .string U, .string H, .int .i64 n, .slice co F.length cc, .slice do_ G.length dc] 37)) := ((Below.refl _ _).alloc (Nat.le_refl _) _).alloc (by rw [World.size_alloc]; omega) _
  have bm0 := (Blk.new w 37 #[.string S, .string U, .string H, .int .i64 n, .slice ao F.length ac, .slice bo G.length bc]).call ((Below.refl (w.alloc (.cells #[.string S, .string U, .string H, .int .i64 n, .slice ao F.length ac, .slice bo G.length bc] 37)).heap.size (w.alloc (.cells #[.string S, .string U, .string H, .int .i64 n, .slice ao F.length ac, .slice bo G.length bc] 37))).alloc (Nat.le_refl _) (.cells #[.string S, .string U, .string H, .int .i64 n, .slice co F.length cc, .slice do_ G.length dc] 37))
  have bn0 := Blk.new (w.alloc (.cells #[.string S, .string U, .string H, .int .i64 n, .slice ao F.length ac, .slice bo G.length bc] 37)) 37 #[.string S, .string U, .string H, .int .i64 n, .slice co F.length cc, .slice do_ G.length dc]
  rw [World.size_alloc] at bn0
  obtain ⟨w0, hw0⟩ : ∃ w0, w0 = (w.alloc (.cells #[.string S, .string U, .string H, .int .i64 n, .slice ao F.length ac, .slice bo G.length bc] 37)).alloc (.cells #[.string S, .string U, .string H, .int .i64 n, .slice co F.length cc, .slice do_ G.length dc] 37) := ⟨_, rfl⟩
  rw [← hw0] at hB0 bm0 bn0
  have HX := Lib.hid (fun (wx : World) (h : Below w0.heap.size w0 wx) => (show Blk wx w.heap.size 37 #[.string S, .string U, .string H, .int .i64 n, .slice ao F.length ac, .slice bo G.length bc] ∧ Blk wx (w.heap.size + 1) 37 #[.string S, .string U, .string H, .int .i64 n, .slice co F.length cc, .slice do_ G.length dc] ∧ Below w.heap.size w wx ∧ RPrms wx (.slice ao F.length ac) F ∧ RPrms wx (.slice bo G.length bc) G ∧ RPrms wx (.slice co F.length cc) F ∧ RPrms wx (.slice do_ G.length dc) G from by
    have hx := hB0.trans (h.mono hB0.size)
    exact ⟨bm0.call h, bn0.call h, hx, H1.out.below hx (Nat.le_refl _), H2.out.below hx (Nat.le_refl _), H3.out.below hx (Nat.le_refl _), H4.out.below hx (Nat.le_refl _)⟩))
  have HW0 := Lib.hid hw0
  have hZ : Below w0.heap.size w0 w0 := Below.refl _ _
  obtain ⟨bm, bn, hBB, k0, k1, k2, k3⟩ := HX.out _ hZ
  clear hw0 bm0 bn0 hB0
  obtain ⟨p0, p1, p2, p3, p4, p5⟩ := blk_f6 bm
  obtain ⟨q0, q1, q2, q3, q4, q5⟩ := blk_f6 bn
  go_enter Tryd.func41, Tryd.ntmps41
  go_wp2_with (go_at_call 12; (try rw [← HW0.out]); (first | ((with_reducible refine (HL1.out _ k0 k2).mono ?_); rintro e w1 ⟨rfl, hC⟩) | ((with_reducible refine (HL2.out _ k1 k3).mono ?_); rintro e w1 ⟨rfl, hC⟩)); replace hZ := hZ.trans (hC.below (B := w0.heap.size)); clear k0 k1 k2 k3 bm bn hBB p0 p1 p2 p3 p4 p5 q0 q1 q2 q3 q4 q5; obtain ⟨bm, bn, hBB, k0, k1, k2, k3⟩ := HX.out _ hZ; obtain ⟨p0, p1, p2, p3, p4, p5⟩ := blk_f6 bm; obtain ⟨q0, q1, q2, q3, q4, q5⟩ := blk_f6 bn)
  go_ret
  exact ⟨rfl, hBB⟩

set_option maxRecDepth 100000 in
set_option maxHeartbeats 6400000 in
theorem same5_yes (D S U H : ByteArray) (n : Int) (u1 u2 u3 v1 v2 v3 : Value) (F G P : List Prm) (w : World) (h1 : RPrms w u1 F) (h2 : RPrms w u2 G) (h3 : RPrms w u3 P) (h4 : RPrms w v1 F) (h5 : RPrms w v2 G) (h6 : RPrms w v3 P) :
    Calls Tryd.prog 15 #[.agg #[.string D, .string S, .string U, .string H, .int .i64 n, u1, u2, u3], .agg #[.string D, .string S, .string U, .string H, .int .i64 n, v1, v2, v3]] w fun e w' => e = .returned (.bool true) ∧ Below w.heap.size w w' := by
  have H1 := Lib.hid h1
  have H2 := Lib.hid h2
  have H3 := Lib.hid h3
  have H4 := Lib.hid h4
  have H5 := Lib.hid h5
  have H6 := Lib.hid h6
  obtain ⟨ao, ac, rfl, _, _⟩ := h1.form
  obtain ⟨bo, bc, rfl, _, _⟩ := h2.form
  obtain ⟨co, cc, rfl, _, _⟩ := h3.form
  obtain ⟨xo, xc, rfl, _, _⟩ := h4.form
  obtain ⟨yo, yc, rfl, _, _⟩ := h5.form
  obtain ⟨zo, zc, rfl, _, _⟩ := h6.form
  clear h1 h2 h3 h4 h5 h6
  have HS := Lib.hid (fun wx h1 h2 h3 h4 => same3_yes S U H n (.slice ao F.length ac) (.slice bo G.length bc) (.slice xo F.length xc) (.slice yo G.length yc) F G wx h1 h2 h3 h4)
  have HL := Lib.hid (fun wx hx hy => lists_c (.slice co P.length cc) (.slice zo P.length zc) P P wx hx hy)
  rw [show (P == P) = true by simp] at HL
  have hB0 : Below w.heap.size w ((w.alloc (.cells #[.string D, .string S, .string U, .string H, .int .i64 n, .slice ao F.length ac, .slice bo G.length bc, .slice co P.length cc] 39)).alloc (.cells #[.string D, .string S, .string U, .string H, .int .i64 n, .slice xo F.length xc, .slice yo G.length yc, .slice zo P.length zc] 39)) := ((Below.refl _ _).alloc (Nat.le_refl _) _).alloc (by rw [World.size_alloc]; omega) _
  have bm0 := (Blk.new w 39 #[.string D, .string S, .string U, .string H, .int .i64 n, .slice ao F.length ac, .slice bo G.length bc, .slice co P.length cc]).call ((Below.refl (w.alloc (.cells #[.string D, .string S, .string U, .string H, .int .i64 n, .slice ao F.length ac, .slice bo G.length bc, .slice co P.length cc] 39)).heap.size (w.alloc (.cells #[.string D, .string S, .string U, .string H, .int .i64 n, .slice ao F.length ac, .slice bo G.length bc, .slice co P.length cc] 39))).alloc (Nat.le_refl _) (.cells #[.string D, .string S, .string U, .string H, .int .i64 n, .slice xo F.length xc, .slice yo G.length yc, .slice zo P.length zc] 39))
  have bn0 := Blk.new (w.alloc (.cells #[.string D, .string S, .string U, .string H, .int .i64 n, .slice ao F.length ac, .slice bo G.length bc, .slice co P.length cc] 39)) 39 #[.string D, .string S, .string U, .string H, .int .i64 n, .slice xo F.length xc, .slice yo G.length yc, .slice zo P.length zc]
  rw [World.size_alloc] at bn0
  obtain ⟨w0, hw0⟩ : ∃ w0, w0 = (w.alloc (.cells #[.string D, .string S, .string U, .string H, .int .i64 n, .slice ao F.length ac, .slice bo G.length bc, .slice co P.length cc] 39)).alloc (.cells #[.string D, .string S, .string U, .string H, .int .i64 n, .slice xo F.length xc, .slice yo G.length yc, .slice zo P.length zc] 39) := ⟨_, rfl⟩
  rw [← hw0] at hB0 bm0 bn0
  have HX := Lib.hid (fun (wx : World) (h : Below w0.heap.size w0 wx) => (show Blk wx w.heap.size 39 #[.string D, .string S, .string U, .string H, .int .i64 n, .slice ao F.length ac, .slice bo G.length bc, .slice co P.length cc] ∧ Blk wx (w.heap.size + 1) 39 #[.string D, .string S, .string U, .string H, .int .i64 n, .slice xo F.length xc, .slice yo G.length yc, .slice zo P.length zc] ∧ Below w.heap.size w wx ∧ RPrms wx (.slice ao F.length ac) F ∧ RPrms wx (.slice bo G.length bc) G ∧ RPrms wx (.slice co P.length cc) P ∧ RPrms wx (.slice xo F.length xc) F ∧ RPrms wx (.slice yo G.length yc) G ∧ RPrms wx (.slice zo P.length zc) P from by
    have hx := hB0.trans (h.mono hB0.size)
    exact ⟨bm0.call h, bn0.call h, hx, H1.out.below hx (Nat.le_refl _), H2.out.below hx (Nat.le_refl _), H3.out.below hx (Nat.le_refl _), H4.out.below hx (Nat.le_refl _), H5.out.below hx (Nat.le_refl _), H6.out.below hx (Nat.le_refl _)⟩))
  have HW0 := Lib.hid hw0
  have hZ : Below w0.heap.size w0 w0 := Below.refl _ _
  obtain ⟨bm, bn, hBB, k0, k1, k2, k3, k4, k5⟩ := HX.out _ hZ
  clear hw0 bm0 bn0 hB0
  obtain ⟨p0, p1, p2, p3, p4, p5, p6, p7⟩ := blk_f8 bm
  obtain ⟨q0, q1, q2, q3, q4, q5, q6, q7⟩ := blk_f8 bn
  go_enter Tryd.func15, Tryd.ntmps15
  go_wp2_with (first | (go_at_call 41; (try rw [← HW0.out]); refine (HS.out _ k0 k1 k3 k4).mono ?_; rintro e w1 ⟨rfl, hC⟩; replace hZ := hZ.trans (hC.mono hZ.size); clear k0 k1 k2 k3 k4 k5 bm bn hBB p0 p1 p2 p3 p4 p5 p6 p7 q0 q1 q2 q3 q4 q5 q6 q7; obtain ⟨bm, bn, hBB, k0, k1, k2, k3, k4, k5⟩ := HX.out _ hZ; obtain ⟨p0, p1, p2, p3, p4, p5, p6, p7⟩ := blk_f8 bm; obtain ⟨q0, q1, q2, q3, q4, q5, q6, q7⟩ := blk_f8 bn) | (go_at_call 12; refine (HL.out _ k2 k5).mono ?_; rintro e w1 ⟨rfl, hC⟩; replace hZ := hZ.trans (hC.below (B := w0.heap.size)); clear k0 k1 k2 k3 k4 k5 bm bn hBB p0 p1 p2 p3 p4 p5 p6 p7 q0 q1 q2 q3 q4 q5 q6 q7; obtain ⟨bm, bn, hBB, k0, k1, k2, k3, k4, k5⟩ := HX.out _ hZ; obtain ⟨p0, p1, p2, p3, p4, p5, p6, p7⟩ := blk_f8 bm; obtain ⟨q0, q1, q2, q3, q4, q5, q6, q7⟩ := blk_f8 bn))
  go_ret
  exact ⟨rfl, hBB⟩

end Go.Proofs.YtjpmfcipjaeemaaDoor
