/- Contracts of Go functions, and plain laws. No condition but those told. -/
import Derived.Test.YtipdiddjhimdcaaGreatDoorB14
import Derived.Lib.QuietBelow
import Derived.BigQuiet
import Derived.ArgAppend
import Derived.Lib.SliceRun
set_option linter.unusedSimpArgs false
set_option linter.unusedVariables false
set_option maxRecDepth 100000
namespace Go.Proofs.YtipdiddjhimdcaaGreatDoor
open Go.RowKit Go.Sort
theorem toL (x : List UInt8) : (bs x).toList = x := by rw [toList_us, us_bs]
theorem matchD_cases (d : Dlg) (r : Rq) :
  ((r.call == d.call) = false ∧ matchD d r = false) ∨ (r.call = d.call ∧ (r.toT == tagA d.loc) = false ∧ matchD d r = false) ∨
  (r.call = d.call ∧ r.toT = tagA d.loc ∧ (r.fromT == tagA d.rem) = false ∧ matchD d r = false) ∨ (r.call = d.call ∧ r.toT = tagA d.loc ∧ r.fromT = tagA d.rem ∧ matchD d r = true) := by
 unfold matchD
 cases h1 : (r.call == d.call)
 ·exact .inl ⟨rfl, rfl⟩
 refine .inr ?_
 have e1 := eq_of_beq h1
 cases h2 : (r.toT == tagA d.loc)
 ·exact .inl ⟨e1, rfl, rfl⟩
 refine .inr ?_
 have e2 := eq_of_beq h2
 cases h3 : (r.fromT == tagA d.rem)
 ·exact .inl ⟨e1, e2, rfl, rfl⟩
 ·exact .inr ⟨e1, e2, eq_of_beq h3, rfl⟩
set_option maxHeartbeats 12800000 in
theorem match_c (vd vr : Value) (d : Dlg) (r : Rq) (w : World) (hd : RDlg w vd d) (hr : RReq w vr r) (b1 : ∀ p ∈ d.loc.ps, p.name.length ≤ 4294967280) (b2 : ∀ p ∈ d.rem.ps, p.name.length ≤ 4294967280) :
  Calls Tryz.prog 24 #[vd, vr] w fun e w' => e = .returned (.bool (matchD d r)) ∧ Below w.heap.size w w' := by
 obtain ⟨u1, u2, u3, u4, u5, u6, u7, u8, u9, rfl, h1, h2, h3, h4, h5, h6, h7, h8, h9⟩ := hd
 obtain ⟨c0, c1, c2, c3, c4, c5, c6, c7, c8, c9, c10, c11, c12, c13, c14, c15, q1, q2, q3, q4, q5, q6, q7, q8, rfl, _⟩ := hr
 have f1 := h1.form'
 have f2 := h2.form'
 have f4 := h4.form'
 have f5 := h5.form'
 have HT1 := κ (fun wx hx => tagA_c (bs d.loc.disp) (bs d.loc.uri.scheme) (bs d.loc.uri.user) (bs d.loc.uri.host) d.loc.uri.port u1 u2 u3 d.loc.uri.ps d.loc.uri.hs d.loc.ps wx hx b1 f1 f2)
 have HT2 := κ (fun wx hx => tagA_c (bs d.rem.disp) (bs d.rem.uri.scheme) (bs d.rem.uri.user) (bs d.rem.uri.host) d.rem.uri.port u4 u5 u6 d.rem.uri.ps d.rem.uri.hs d.rem.ps wx hx b2 f4 f5)
 have hB0 : Below w.heap.size w ((w.alloc (.cells #[.string (bs d.call), .string (bs d.loc.disp), .string (bs d.loc.uri.scheme), .string (bs d.loc.uri.user), .string (bs d.loc.uri.host), .int .i64 d.loc.uri.port, u1, u2, u3, .string (bs d.rem.disp), .string (bs d.rem.uri.scheme), .string (bs d.rem.uri.user), .string (bs d.rem.uri.host), .int .i64 d.rem.uri.port, u4, u5, u6, .string (bs d.tgt.scheme), .string (bs d.tgt.user), .string (bs d.tgt.host), .int .i64 d.tgt.port, u7, u8, u9, .int .i64 d.lin, .int .i64 d.lout] 34)).alloc (.cells #[c0, c1, c2, c3, c4, c5, c6, c7, c8, .string (bs r.fr.disp), .string (bs r.fr.uri.scheme), .string (bs r.fr.uri.user), .string (bs r.fr.uri.host), .int .i64 r.fr.uri.port, q1, q2, q3, .string (bs r.dst.disp), .string (bs r.dst.uri.scheme), .string (bs r.dst.uri.user), .string (bs r.dst.uri.host), .int .i64 r.dst.uri.port, q4, q5, q6, .string (bs r.fromT), .string (bs r.toT), .string (bs r.call), .int .i64 r.seq, c9, c10, c11, q7, q8, c12, c13, c14, c15] 32)) := ((Below.refl _ _).alloc (ρ _) _).alloc (by rw [World.size_alloc]; omega) _
 have bd : Blk ((w.alloc (.cells #[.string (bs d.call), .string (bs d.loc.disp), .string (bs d.loc.uri.scheme), .string (bs d.loc.uri.user), .string (bs d.loc.uri.host), .int .i64 d.loc.uri.port, u1, u2, u3, .string (bs d.rem.disp), .string (bs d.rem.uri.scheme), .string (bs d.rem.uri.user), .string (bs d.rem.uri.host), .int .i64 d.rem.uri.port, u4, u5, u6, .string (bs d.tgt.scheme), .string (bs d.tgt.user), .string (bs d.tgt.host), .int .i64 d.tgt.port, u7, u8, u9, .int .i64 d.lin, .int .i64 d.lout] 34)).alloc (.cells #[c0, c1, c2, c3, c4, c5, c6, c7, c8, .string (bs r.fr.disp), .string (bs r.fr.uri.scheme), .string (bs r.fr.uri.user), .string (bs r.fr.uri.host), .int .i64 r.fr.uri.port, q1, q2, q3, .string (bs r.dst.disp), .string (bs r.dst.uri.scheme), .string (bs r.dst.uri.user), .string (bs r.dst.uri.host), .int .i64 r.dst.uri.port, q4, q5, q6, .string (bs r.fromT), .string (bs r.toT), .string (bs r.call), .int .i64 r.seq, c9, c10, c11, q7, q8, c12, c13, c14, c15] 32)) w.heap.size 34 #[.string (bs d.call), .string (bs d.loc.disp), .string (bs d.loc.uri.scheme), .string (bs d.loc.uri.user), .string (bs d.loc.uri.host), .int .i64 d.loc.uri.port, u1, u2, u3, .string (bs d.rem.disp), .string (bs d.rem.uri.scheme), .string (bs d.rem.uri.user), .string (bs d.rem.uri.host), .int .i64 d.rem.uri.port, u4, u5, u6, .string (bs d.tgt.scheme), .string (bs d.tgt.user), .string (bs d.tgt.host), .int .i64 d.tgt.port, u7, u8, u9, .int .i64 d.lin, .int .i64 d.lout] := (Blk.new w 34 #[.string (bs d.call), .string (bs d.loc.disp), .string (bs d.loc.uri.scheme), .string (bs d.loc.uri.user), .string (bs d.loc.uri.host), .int .i64 d.loc.uri.port, u1, u2, u3, .string (bs d.rem.disp), .string (bs d.rem.uri.scheme), .string (bs d.rem.uri.user), .string (bs d.rem.uri.host), .int .i64 d.rem.uri.port, u4, u5, u6, .string (bs d.tgt.scheme), .string (bs d.tgt.user), .string (bs d.tgt.host), .int .i64 d.tgt.port, u7, u8, u9, .int .i64 d.lin, .int .i64 d.lout]).alloc _
 have br : Blk ((w.alloc (.cells #[.string (bs d.call), .string (bs d.loc.disp), .string (bs d.loc.uri.scheme), .string (bs d.loc.uri.user), .string (bs d.loc.uri.host), .int .i64 d.loc.uri.port, u1, u2, u3, .string (bs d.rem.disp), .string (bs d.rem.uri.scheme), .string (bs d.rem.uri.user), .string (bs d.rem.uri.host), .int .i64 d.rem.uri.port, u4, u5, u6, .string (bs d.tgt.scheme), .string (bs d.tgt.user), .string (bs d.tgt.host), .int .i64 d.tgt.port, u7, u8, u9, .int .i64 d.lin, .int .i64 d.lout] 34)).alloc (.cells #[c0, c1, c2, c3, c4, c5, c6, c7, c8, .string (bs r.fr.disp), .string (bs r.fr.uri.scheme), .string (bs r.fr.uri.user), .string (bs r.fr.uri.host), .int .i64 r.fr.uri.port, q1, q2, q3, .string (bs r.dst.disp), .string (bs r.dst.uri.scheme), .string (bs r.dst.uri.user), .string (bs r.dst.uri.host), .int .i64 r.dst.uri.port, q4, q5, q6, .string (bs r.fromT), .string (bs r.toT), .string (bs r.call), .int .i64 r.seq, c9, c10, c11, q7, q8, c12, c13, c14, c15] 32)) (w.heap.size + 1) 32 #[c0, c1, c2, c3, c4, c5, c6, c7, c8, .string (bs r.fr.disp), .string (bs r.fr.uri.scheme), .string (bs r.fr.uri.user), .string (bs r.fr.uri.host), .int .i64 r.fr.uri.port, q1, q2, q3, .string (bs r.dst.disp), .string (bs r.dst.uri.scheme), .string (bs r.dst.uri.user), .string (bs r.dst.uri.host), .int .i64 r.dst.uri.port, q4, q5, q6, .string (bs r.fromT), .string (bs r.toT), .string (bs r.call), .int .i64 r.seq, c9, c10, c11, q7, q8, c12, c13, c14, c15] := by
  have := Blk.new (w.alloc (.cells #[.string (bs d.call), .string (bs d.loc.disp), .string (bs d.loc.uri.scheme), .string (bs d.loc.uri.user), .string (bs d.loc.uri.host), .int .i64 d.loc.uri.port, u1, u2, u3, .string (bs d.rem.disp), .string (bs d.rem.uri.scheme), .string (bs d.rem.uri.user), .string (bs d.rem.uri.host), .int .i64 d.rem.uri.port, u4, u5, u6, .string (bs d.tgt.scheme), .string (bs d.tgt.user), .string (bs d.tgt.host), .int .i64 d.tgt.port, u7, u8, u9, .int .i64 d.lin, .int .i64 d.lout] 34)) 32 #[c0, c1, c2, c3, c4, c5, c6, c7, c8, .string (bs r.fr.disp), .string (bs r.fr.uri.scheme), .string (bs r.fr.uri.user), .string (bs r.fr.uri.host), .int .i64 r.fr.uri.port, q1, q2, q3, .string (bs r.dst.disp), .string (bs r.dst.uri.scheme), .string (bs r.dst.uri.user), .string (bs r.dst.uri.host), .int .i64 r.dst.uri.port, q4, q5, q6, .string (bs r.fromT), .string (bs r.toT), .string (bs r.call), .int .i64 r.seq, c9, c10, c11, q7, q8, c12, c13, c14, c15]
  rwa [World.size_alloc] at this
 have g3 := κ (h3.below hB0 (ρ _))
 have g6 := κ (h6.below hB0 (ρ _))
 obtain ⟨w0, hw0⟩ : ∃ w0, w0 = ((w.alloc (.cells #[.string (bs d.call), .string (bs d.loc.disp), .string (bs d.loc.uri.scheme), .string (bs d.loc.uri.user), .string (bs d.loc.uri.host), .int .i64 d.loc.uri.port, u1, u2, u3, .string (bs d.rem.disp), .string (bs d.rem.uri.scheme), .string (bs d.rem.uri.user), .string (bs d.rem.uri.host), .int .i64 d.rem.uri.port, u4, u5, u6, .string (bs d.tgt.scheme), .string (bs d.tgt.user), .string (bs d.tgt.host), .int .i64 d.tgt.port, u7, u8, u9, .int .i64 d.lin, .int .i64 d.lout] 34)).alloc (.cells #[c0, c1, c2, c3, c4, c5, c6, c7, c8, .string (bs r.fr.disp), .string (bs r.fr.uri.scheme), .string (bs r.fr.uri.user), .string (bs r.fr.uri.host), .int .i64 r.fr.uri.port, q1, q2, q3, .string (bs r.dst.disp), .string (bs r.dst.uri.scheme), .string (bs r.dst.uri.user), .string (bs r.dst.uri.host), .int .i64 r.dst.uri.port, q4, q5, q6, .string (bs r.fromT), .string (bs r.toT), .string (bs r.call), .int .i64 r.seq, c9, c10, c11, q7, q8, c12, c13, c14, c15] 32)) := ⟨_, rfl⟩
 rw [← hw0] at hB0 bd br g3 g6
 have HW0 := κ hw0
 have hcs := matchD_cases d r
 have e1 : ((bs r.call).toList == (bs d.call).toList) = (r.call == d.call) := by rw [toL, toL]
 have e2 : ((bs r.toT).toList == (bs (value d.loc.ps nTag).1).toList) = (r.toT == tagA d.loc) := by rw [toL, toL]; rfl
 have e3 : ((bs r.fromT).toList == (bs (value d.rem.ps nTag).1).toList) = (r.fromT == tagA d.rem) := by rw [toL, toL]; rfl
 obtain ⟨M, hM⟩ : ∃ M, M = matchD d r := ⟨_, rfl⟩
 rw [← hM] at hcs ⊢
 have c1 := fun dd os => Calls.regrown_of (HT1.out (grow (redrawn w0 dd) os) (g3.out.below (below_regrown w0 dd os) (ρ _)))
 have c2 := fun dd os => Calls.regrown_of (HT2.out (grow (redrawn w0 dd) os) (g6.out.below (below_regrown w0 dd os) (ρ _)))
 have p0 := cell_regrown (show w0.cell? ⟨w.heap.size, 0, none⟩ = some (.string (bs d.call)) from boxedCell bd 0)
 have p1 := cell_regrown (show w0.cell? ⟨w.heap.size, 1, none⟩ = some (.string (bs d.loc.disp)) from boxedCell bd 1)
 have p2 := cell_regrown (show w0.cell? ⟨w.heap.size, 2, none⟩ = some (.string (bs d.loc.uri.scheme)) from boxedCell bd 2)
 have p3 := cell_regrown (show w0.cell? ⟨w.heap.size, 3, none⟩ = some (.string (bs d.loc.uri.user)) from boxedCell bd 3)
 have p4 := cell_regrown (show w0.cell? ⟨w.heap.size, 4, none⟩ = some (.string (bs d.loc.uri.host)) from boxedCell bd 4)
 have p5 := cell_regrown (show w0.cell? ⟨w.heap.size, 5, none⟩ = some (.int .i64 d.loc.uri.port) from boxedCell bd 5)
 have p6 := cell_regrown (show w0.cell? ⟨w.heap.size, 6, none⟩ = some (u1) from boxedCell bd 6)
 have p7 := cell_regrown (show w0.cell? ⟨w.heap.size, 7, none⟩ = some (u2) from boxedCell bd 7)
 have p8 := cell_regrown (show w0.cell? ⟨w.heap.size, 8, none⟩ = some (u3) from boxedCell bd 8)
 have p9 := cell_regrown (show w0.cell? ⟨w.heap.size, 9, none⟩ = some (.string (bs d.rem.disp)) from boxedCell bd 9)
 have p10 := cell_regrown (show w0.cell? ⟨w.heap.size, 10, none⟩ = some (.string (bs d.rem.uri.scheme)) from boxedCell bd 10)
 have p11 := cell_regrown (show w0.cell? ⟨w.heap.size, 11, none⟩ = some (.string (bs d.rem.uri.user)) from boxedCell bd 11)
 have p12 := cell_regrown (show w0.cell? ⟨w.heap.size, 12, none⟩ = some (.string (bs d.rem.uri.host)) from boxedCell bd 12)
 have p13 := cell_regrown (show w0.cell? ⟨w.heap.size, 13, none⟩ = some (.int .i64 d.rem.uri.port) from boxedCell bd 13)
 have p14 := cell_regrown (show w0.cell? ⟨w.heap.size, 14, none⟩ = some (u4) from boxedCell bd 14)
 have p15 := cell_regrown (show w0.cell? ⟨w.heap.size, 15, none⟩ = some (u5) from boxedCell bd 15)
 have p16 := cell_regrown (show w0.cell? ⟨w.heap.size, 16, none⟩ = some (u6) from boxedCell bd 16)
 have x25 := cell_regrown (show w0.cell? ⟨w.heap.size + 1, 25, none⟩ = some (.string (bs r.fromT)) from boxedCell br 25)
 have x26 := cell_regrown (show w0.cell? ⟨w.heap.size + 1, 26, none⟩ = some (.string (bs r.toT)) from boxedCell br 26)
 have x27 := cell_regrown (show w0.cell? ⟨w.heap.size + 1, 27, none⟩ = some (.string (bs r.call)) from boxedCell br 27)
 obtain ⟨RC, hRC⟩ : ∃ x, x = bs r.call := ⟨_, rfl⟩
 simp only [← hRC] at e1 x27
 clear hRC
 obtain ⟨DC, hDC⟩ : ∃ x, x = bs d.call := ⟨_, rfl⟩
 simp only [← hDC] at e1 p0
 clear hDC
 obtain ⟨RT, hRT⟩ : ∃ x, x = bs r.toT := ⟨_, rfl⟩
 simp only [← hRT] at e2 x26
 clear hRT
 obtain ⟨RF, hRF⟩ : ∃ x, x = bs r.fromT := ⟨_, rfl⟩
 simp only [← hRF] at e3 x25
 clear hRF
 obtain ⟨LT, hLT⟩ : ∃ x, x = bs (value d.loc.ps nTag).1 := ⟨_, rfl⟩
 simp only [← hLT] at e2 c1
 clear hLT
 obtain ⟨ET, hET⟩ : ∃ x, x = bs (value d.rem.ps nTag).1 := ⟨_, rfl⟩
 simp only [← hET] at e3 c2
 clear hET
 clear h1 h2 h3 h4 h5 h6 h7 h8 h9 bd br hw0 hM
 rcases hcs with ⟨k1, rfl⟩ | ⟨k1, k2, rfl⟩ | ⟨k1, k2, k3, rfl⟩ | ⟨k1, k2, k3, rfl⟩
 rw [k1] at e1
 clear k1
 rotate_left
 rw [show (r.call == d.call) = true by rw [k1]; simp] at e1
 rw [k2] at e2
 clear k1 k2
 rotate_left
 rw [show (r.call == d.call) = true by rw [k1]; simp] at e1
 rw [show (r.toT == tagA d.loc) = true by rw [k2]; simp] at e2
 rw [k3] at e3
 clear k1 k2 k3
 rotate_left
 rw [show (r.call == d.call) = true by rw [k1]; simp] at e1
 rw [show (r.toT == tagA d.loc) = true by rw [k2]; simp] at e2
 rw [show (r.fromT == tagA d.rem) = true by rw [k3]; simp] at e3
 clear k1 k2 k3
 rotate_left
 all_goals
  go_enter Tryz.func24, Tryz.ntmps24
  go_upto_region 1 with fail
  rw [← HW0.out]
  refine wp_region_quiet_below (by kernel_rfl) (by kernel_rfl) ?_
  repeat (first | go_big_quiet_step (first | with_reducible exact c1 _ _ | with_reducible exact c2 _ _) | quiet_step (first | with_reducible exact c1 _ _ | with_reducible exact c2 _ _))
  refine wpQuiet_nil ?_
  intro wq hw'
  have hBq := regrownZ hw'
  clear hw' c1 c2 p0 p1 p2 p3 p4 p5 p6 p7 p8 p9 p10 p11 p12 p13 p14 p15 p16 x25 x26 x27
  go_wp2
  go_ret
  exact ⟨rfl, hB0.trans (hBq.mono hB0.size)⟩
theorem RDlg.lit {w : World} {v : Value} {d : Dlg} (h : RDlg w v d) : ∃ e1 y1 e2 y2 e3 y3 e4 y4 e5 y5 e6 y6 e7 y7 e8 y8 e9 y9, v = .agg #[.string (bs d.call), .string (bs d.loc.disp), .string (bs d.loc.uri.scheme), .string (bs d.loc.uri.user), .string (bs d.loc.uri.host), .int .i64 d.loc.uri.port, .slice e1 d.loc.uri.ps.length y1, .slice e2 d.loc.uri.hs.length y2, .slice e3 d.loc.ps.length y3, .string (bs d.rem.disp), .string (bs d.rem.uri.scheme), .string (bs d.rem.uri.user), .string (bs d.rem.uri.host), .int .i64 d.rem.uri.port, .slice e4 d.rem.uri.ps.length y4, .slice e5 d.rem.uri.hs.length y5, .slice e6 d.rem.ps.length y6, .string (bs d.tgt.scheme), .string (bs d.tgt.user), .string (bs d.tgt.host), .int .i64 d.tgt.port, .slice e7 d.tgt.ps.length y7, .slice e8 d.tgt.hs.length y8, .slice e9 d.routes.length y9, .int .i64 d.lin, .int .i64 d.lout] ∧ RPrms w (.slice e1 d.loc.uri.ps.length y1) d.loc.uri.ps ∧ RPrms w (.slice e2 d.loc.uri.hs.length y2) d.loc.uri.hs ∧ RPrms w (.slice e3 d.loc.ps.length y3) d.loc.ps ∧ RPrms w (.slice e4 d.rem.uri.ps.length y4) d.rem.uri.ps ∧ RPrms w (.slice e5 d.rem.uri.hs.length y5) d.rem.uri.hs ∧ RPrms w (.slice e6 d.rem.ps.length y6) d.rem.ps ∧ RPrms w (.slice e7 d.tgt.ps.length y7) d.tgt.ps ∧ RPrms w (.slice e8 d.tgt.hs.length y8) d.tgt.hs ∧ RStrs w (.slice e9 d.routes.length y9) d.routes := by
 obtain ⟨u1, u2, u3, u4, u5, u6, u7, u8, u9, rfl, h1, h2, h3, h4, h5, h6, h7, h8, h9⟩ := h
 obtain ⟨e1, y1, rfl, _⟩ := h1.form
 obtain ⟨e2, y2, rfl, _⟩ := h2.form
 obtain ⟨e3, y3, rfl, _⟩ := h3.form
 obtain ⟨e4, y4, rfl, _⟩ := h4.form
 obtain ⟨e5, y5, rfl, _⟩ := h5.form
 obtain ⟨e6, y6, rfl, _⟩ := h6.form
 obtain ⟨e7, y7, rfl, _⟩ := h7.form
 obtain ⟨e8, y8, rfl, _⟩ := h8.form
 obtain ⟨e9, y9, rfl, _⟩ := h9.form
 exact ⟨e1, y1, e2, y2, e3, y3, e4, y4, e5, y5, e6, y6, e7, y7, e8, y8, e9, y9, rfl, h1, h2, h3, h4, h5, h6, h7, h8, h9⟩
set_option maxHeartbeats 1600000 in
theorem first_c (v : Value) (L : List (List UInt8)) (w : World) (hv : RStrs w v L) :
  Calls Tryz.prog 70 #[v] w fun e w' => e = .returned (.tuple #[.string (bs (L.headD [])), .bool (L != [])]) ∧ w' = w := by
 obtain ⟨ao, cap, rfl, hm1, c1⟩ := hv.form
 unfold maxLen at hm1
 cases L with
 | nil =>
  clear c1
  go_enter Tryz.func70, Tryz.ntmps70
  go_wp2
  go_ret2
  exact ⟨rfl, rfl⟩
 | cons x r =>
  obtain ⟨b, off, rfl, hb1, hc1⟩ := c1 (by simp)
  have x0 := hc1 0 (by simp)
  rw [Nat.add_zero] at x0
  have k1 : (0 : Int) < ((x :: r).length : Int) := by simp
  have k2 : (((x :: r).length : Int) == 0) = false := by simp; omega
  have hL : (x :: r).headD [] = x := rfl
  have hN : (x :: r != []) = true := rfl
  clear hc1 c1
  go_enter Tryz.func70, Tryz.ntmps70
  go_wp2
  go_ret2
  exact ⟨by rw [hL, hN]; rfl, rfl⟩
theorem whereD_cases (d : Dlg) : (d.routes = [] ∧ whereD d = byU d.tgt) ∨ (∃ x r, d.routes = x :: r ∧ (((parseA x).2 ≠ 0 ∧ whereD d = []) ∨ ((parseA x).2 = 0 ∧ whereD d = byU (parseA x).1.uri))) := by
 unfold whereD
 cases d.routes with
 | nil => exact .inl ⟨rfl, rfl⟩
 | cons x r =>
  refine .inr ⟨x, r, rfl, ?_⟩
  by_cases h : (parseA x).2 = 0
  ·exact .inr ⟨h, by dsimp only; rw [if_pos h]⟩
  ·exact .inl ⟨h, by dsimp only; rw [if_neg h]⟩
theorem RPrms.emp (w : World) : RPrms w (.slice none 0 0) [] := .inl ⟨⟨_, _, rfl⟩, rfl⟩
set_option maxHeartbeats 6400000 in
theorem whereD_c (vd : Value) (d : Dlg) (w : World) (hm : Ml w) (hd : RDlg w vd d) (hh : d.tgt.host.length ≤ 4294967280) (p0 : -9223372036854775808 ≤ d.tgt.port) (p1 : d.tgt.port ≤ 9223372036854775807) (hr : ∀ x ∈ d.routes, x.length ≤ 4294967280)
  (hpp : ∀ x ∈ d.routes, (parseA x).2 = 0 → (parseA x).1.uri.host.length ≤ 4294967280 ∧ -9223372036854775808 ≤ (parseA x).1.uri.port ∧ (parseA x).1.uri.port ≤ 9223372036854775807) :
  Calls Tryz.prog 27 #[vd] w fun e w' => e = .returned (.string (bs (whereD d))) ∧ Below w.heap.size w w' := by
 obtain ⟨e1, y1, e2, y2, e3, y3, e4, y4, e5, y5, e6, y6, e7, y7, e8, y8, e9, y9, rfl, _, _, _, _, _, _, h7, h8, h9⟩ := hd.lit
 have HM := κ hm
 obtain ⟨vs, hvs⟩ : ∃ vs : Array Value, vs = #[.string (bs d.call), .string (bs d.loc.disp), .string (bs d.loc.uri.scheme), .string (bs d.loc.uri.user), .string (bs d.loc.uri.host), .int .i64 d.loc.uri.port, .slice e1 d.loc.uri.ps.length y1, .slice e2 d.loc.uri.hs.length y2, .slice e3 d.loc.ps.length y3, .string (bs d.rem.disp), .string (bs d.rem.uri.scheme), .string (bs d.rem.uri.user), .string (bs d.rem.uri.host), .int .i64 d.rem.uri.port, .slice e4 d.rem.uri.ps.length y4, .slice e5 d.rem.uri.hs.length y5, .slice e6 d.rem.ps.length y6, .string (bs d.tgt.scheme), .string (bs d.tgt.user), .string (bs d.tgt.host), .int .i64 d.tgt.port, .slice e7 d.tgt.ps.length y7, .slice e8 d.tgt.hs.length y8, .slice e9 d.routes.length y9, .int .i64 d.lin, .int .i64 d.lout] := ⟨_, rfl⟩
 rw [← hvs]
 have hB0 : Below w.heap.size w (w.alloc (.cells vs 34)) := (Below.refl _ _).alloc (ρ _) _
 have bd : Blk (w.alloc (.cells vs 34)) w.heap.size 34 vs := Blk.new w 34 vs
 obtain ⟨w0, hw0⟩ : ∃ w0, w0 = (w.alloc (.cells vs 34)) := ⟨_, rfl⟩
 rw [← hw0] at hB0 bd
 have HW0 := κ hw0
 have c17 : w0.cell? ⟨w.heap.size, 17, none⟩ = some (.string (bs d.tgt.scheme)) := (boxedCell bd 17).trans (by rw [hvs]; rfl)
 have c18 : w0.cell? ⟨w.heap.size, 18, none⟩ = some (.string (bs d.tgt.user)) := (boxedCell bd 18).trans (by rw [hvs]; rfl)
 have c19 : w0.cell? ⟨w.heap.size, 19, none⟩ = some (.string (bs d.tgt.host)) := (boxedCell bd 19).trans (by rw [hvs]; rfl)
 have c20 : w0.cell? ⟨w.heap.size, 20, none⟩ = some (.int .i64 d.tgt.port) := (boxedCell bd 20).trans (by rw [hvs]; rfl)
 have c21 : w0.cell? ⟨w.heap.size, 21, none⟩ = some (.slice e7 d.tgt.ps.length y7) := (boxedCell bd 21).trans (by rw [hvs]; rfl)
 have c22 : w0.cell? ⟨w.heap.size, 22, none⟩ = some (.slice e8 d.tgt.hs.length y8) := (boxedCell bd 22).trans (by rw [hvs]; rfl)
 have c23 : w0.cell? ⟨w.heap.size, 23, none⟩ = some (.slice e9 d.routes.length y9) := (boxedCell bd 23).trans (by rw [hvs]; rfl)
 have hlt := bd.lt
 have hB1 : Below w.heap.size w (w0.alloc (.cells #[.string (bs d.tgt.scheme), .string (bs d.tgt.user), .string (bs d.tgt.host), .int .i64 d.tgt.port, .slice e7 d.tgt.ps.length y7, .slice e8 d.tgt.hs.length y8] 24)) := hB0.alloc hB0.size _
 have bu := Blk.new w0 24 #[.string (bs d.tgt.scheme), .string (bs d.tgt.user), .string (bs d.tgt.host), .int .i64 d.tgt.port, .slice e7 d.tgt.ps.length y7, .slice e8 d.tgt.hs.length y8]
 have bd1 := bd.alloc (.cells #[.string (bs d.tgt.scheme), .string (bs d.tgt.user), .string (bs d.tgt.host), .int .i64 d.tgt.port, .slice e7 d.tgt.ps.length y7, .slice e8 d.tgt.hs.length y8] 24)
 have d23 : (w0.alloc (.cells #[.string (bs d.tgt.scheme), .string (bs d.tgt.user), .string (bs d.tgt.host), .int .i64 d.tgt.port, .slice e7 d.tgt.ps.length y7, .slice e8 d.tgt.hs.length y8] 24)).cell? ⟨w.heap.size, 23, none⟩ = some (.slice e9 d.routes.length y9) := (boxedCell bd1 23).trans (by rw [hvs]; rfl)
 have H9 := κ (h9.below hB1 (ρ _))
 obtain ⟨w1, hw1⟩ : ∃ x, x = w0.alloc (.cells #[.string (bs d.tgt.scheme), .string (bs d.tgt.user), .string (bs d.tgt.host), .int .i64 d.tgt.port, .slice e7 d.tgt.ps.length y7, .slice e8 d.tgt.hs.length y8] 24) := ⟨_, rfl⟩
 rw [← hw1] at hB1 bu bd1 d23 H9
 have HF := κ (first_c _ d.routes w1 H9.out)
 obtain ⟨OK, hOK⟩ : ∃ x, x = (d.routes != []) := ⟨_, rfl⟩
 obtain ⟨FH, hFH⟩ : ∃ x, x = d.routes.headD [] := ⟨_, rfl⟩
 rw [← hOK, ← hFH] at HF
 have HW1 := κ hw1
 have hcs := whereD_cases d
 have hs1 : w0.heap.size < w1.heap.size := bu.lt
 obtain ⟨g, hg⟩ : ∃ g, g = w0.heap.size := ⟨_, rfl⟩
 have HG := κ hg
 rw [← hg] at bu hs1
 have hgB : w.heap.size ≤ g := by rw [hg]; exact hB0.size
 clear hw0 hw1 hvs hd h9 hm bd bd1 hg
 rcases hcs with ⟨hr0, hT⟩ | ⟨x, r, hxr, hcs⟩
 ·have HT := κ (show whereD d = byV ⟨d.tgt.host, d.tgt.port, []⟩ from hT)
  obtain rfl : OK = false := by rw [hOK, hr0]; rfl
  clear hOK hFH hT hr hpp hr0
  obtain ⟨q0, q1, q2, q3, q4, q5⟩ := blk_f6 bu
  have HBY := κ (byV_c (bs d.tgt.host) d.tgt.port (.slice none 0 0) [] (by rw [size_bs]; exact hh) p0 p1 w1 (RPrms.emp w1))
  rw [us_bs] at HBY
  go_enter Tryz.func27, Tryz.ntmps27
  go_upto_region 1 with fail
  rw [← HW0.out]
  go_upto_region 2 with fail
  simp only [← HG.out]
  rw [← HW1.out]
  go_wp2_with (first | (go_at_call 70; refine HF.out.mono ?_; rintro e wx ⟨rfl, rfl⟩) | (go_at_call 71; refine HBY.out.mono ?_; rintro e w9 ⟨rfl, hC⟩))
  go_ret
  refine ⟨?_, hB1.trans (hC.mono hB1.size)⟩
  exact congrArg (fun x => Ending.returned (.string (bs x))) HT.out.symm
 ·have hxl := hr x (by rw [hxr]; exact List.mem_cons_self ..)
  have hpx := hpp x (by rw [hxr]; exact List.mem_cons_self ..)
  obtain rfl : OK = true := by rw [hOK, hxr]; rfl
  obtain rfl : FH = x := by rw [hFH, hxr]; rfl
  clear hOK hFH hr hpp hxr
  have HP := κ (parseA_c (bs FH) (by rw [size_bs]; exact hxl) w1 (HM.out.below hB1))
  rw [us_bs] at HP
  obtain ⟨R, hR⟩ : ∃ R, R = parseA FH := ⟨_, rfl⟩
  rw [← hR] at HP hcs hpx
  clear hR hxl
  obtain ⟨ra, rc⟩ := R
  dsimp only at HP hcs hpx
  unfold AdrPost at HP
  dsimp only at HP
  unfold sv at HP
  rcases hcs with ⟨hc, hT⟩ | ⟨hc, hT⟩
  ·have HT := κ hT
   have t1 : (rc != 0) = true := by simpa using hc
   clear hT hc hpx
   go_enter Tryz.func27, Tryz.ntmps27
   go_upto_region 1 with fail
   rw [← HW0.out]
   go_upto_region 2 with fail
   simp only [← HG.out]
   rw [← HW1.out]
   go_wp2_with (first | (go_at_call 70; refine HF.out.mono ?_; rintro e wx ⟨rfl, rfl⟩) | (go_at_call 18; refine HP.out.mono ?_; rintro e w2 ⟨u1, u2, u3, rfl, hu1, hu2, hu3, _, _, _, hC⟩; obtain ⟨a1, f1, rfl⟩ := hu1.form'; obtain ⟨a2, f2, rfl⟩ := hu2.form'; obtain ⟨a3, f3, rfl⟩ := hu3.form'; have hB2 := hB1.trans (hC.mono hB1.size)))
   go_ret
   exact ⟨congrArg (fun x => Ending.returned (.string (bs x))) HT.out.symm, hB2.alloc hB2.size _⟩
  ·obtain ⟨hh2, p2, p3⟩ := hpx hc
   subst hc
   have HT := κ (show whereD d = byV ⟨ra.uri.host, ra.uri.port, []⟩ from hT)
   clear hT hpx
   have HBY := κ (fun wx => byV_c (bs ra.uri.host) ra.uri.port (.slice none 0 0) [] (by rw [size_bs]; exact hh2) p2 p3 wx (RPrms.emp wx))
   rw [us_bs] at HBY
   go_enter Tryz.func27, Tryz.ntmps27
   go_upto_region 1 with fail
   rw [← HW0.out]
   go_upto_region 2 with fail
   simp only [← HG.out]
   rw [← HW1.out]
   go_upto_region 7 with (first | (go_at_call 70; refine HF.out.mono ?_; rintro e wx ⟨rfl, rfl⟩) | (go_at_call 18; refine HP.out.mono ?_; rintro e w2 ⟨u1, u2, u3, rfl, hu1, hu2, hu3, _, _, _, hC⟩; obtain ⟨a1, f1, rfl⟩ := hu1.form'; obtain ⟨a2, f2, rfl⟩ := hu2.form'; obtain ⟨a3, f3, rfl⟩ := hu3.form'; have hB2 := hB1.trans (hC.mono hB1.size)))
   have ba := Blk.new w2 26 #[.string (bs ra.disp), .string (bs ra.uri.scheme), .string (bs ra.uri.user), .string (bs ra.uri.host), .int .i64 ra.uri.port, .slice a1 ra.uri.ps.length f1, .slice a2 ra.uri.hs.length f2, .slice a3 ra.ps.length f3]
   have bu2 := (bu.call hC).alloc (.cells #[.string (bs ra.disp), .string (bs ra.uri.scheme), .string (bs ra.uri.user), .string (bs ra.uri.host), .int .i64 ra.uri.port, .slice a1 ra.uri.ps.length f1, .slice a2 ra.uri.hs.length f2, .slice a3 ra.ps.length f3] 26)
   have hB3 := hB2.alloc hB2.size (.cells #[.string (bs ra.disp), .string (bs ra.uri.scheme), .string (bs ra.uri.user), .string (bs ra.uri.host), .int .i64 ra.uri.port, .slice a1 ra.uri.ps.length f1, .slice a2 ra.uri.hs.length f2, .slice a3 ra.ps.length f3] 26)
   have hg3 : g ≠ w2.heap.size := Nat.ne_of_lt (bu.call hC).lt
   obtain ⟨w3, hw3⟩ : ∃ x, x = w2.alloc (.cells #[.string (bs ra.disp), .string (bs ra.uri.scheme), .string (bs ra.uri.user), .string (bs ra.uri.host), .int .i64 ra.uri.port, .slice a1 ra.uri.ps.length f1, .slice a2 ra.uri.hs.length f2, .slice a3 ra.ps.length f3] 26) := ⟨_, rfl⟩
   rw [← hw3] at ba bu2 hB3
   rw [← hw3]
   clear hw3
   obtain ⟨r0, r1, r2, r3, r4, r5, r6, r7, _, _, _, _, _, _, _, _, zR⟩ := blk_h8 ba
   obtain ⟨q0, q1, q2, q3, q4, q5⟩ := blk_f6 bu2
   have zf0 := boxedFree bu2 0
   have zf1 := boxedFree bu2 1
   have zf2 := boxedFree bu2 2
   have zf3 := boxedFree bu2 3
   have zf4 := boxedFree bu2 4
   have zf5 := boxedFree bu2 5
   have hB4 := hB3.setCell (p := ⟨g, 0, none⟩) hgB (.string (bs ra.uri.scheme))
   have hB5 := ((((((hB3.setCell (p := ⟨g, 0, none⟩) hgB (.string (bs ra.uri.scheme))).setCell (p := ⟨g, 1, none⟩) hgB (.string (bs ra.uri.user))).setCell (p := ⟨g, 2, none⟩) hgB (.string (bs ra.uri.host))).setCell (p := ⟨g, 3, none⟩) hgB (.int .i64 ra.uri.port)).setCell (p := ⟨g, 4, none⟩) hgB (.slice a1 ra.uri.ps.length f1)).setCell (p := ⟨g, 5, none⟩) hgB (.slice a2 ra.uri.hs.length f2))
   clear hB4
   go_wp2_with (go_at_call 71; refine (HBY.out _).mono ?_; rintro e w9 ⟨rfl, hC9⟩)
   go_ret
   refine ⟨?_, hB5.trans (hC9.mono hB5.size)⟩
   exact congrArg (fun x => Ending.returned (.string (bs x))) HT.out.symm
theorem flatP_len : ∀ L : List Prm, (L.flatMap Prm.cells).length = L.length * 3
 | [] => rfl
 | p :: r => by rw [List.flatMap_cons, List.length_append, flatP_len r, List.length_cons]; simp [Prm.cells]; omega
theorem flatP_one (L : List Prm) : ∀ u ∈ L.flatMap Prm.cells, u.oneCell' = true := by
 intro u hu
 obtain ⟨p, _, hu⟩ := List.mem_flatMap.1 hu
 simp only [Prm.cells, sv, List.mem_cons, List.not_mem_nil, or_false] at hu
 rcases hu with rfl | rfl | rfl <;> rfl
theorem prms_flat {w : World} {b off : Nat} {L : List Prm} (hc : ∀ j (hj : j < L.length), w.cell? ⟨b, off + j * 3, none⟩ = some (sv L[j].name) ∧ w.cell? ⟨b, off + j * 3 + 1, none⟩ = some (sv L[j].value) ∧ w.cell? ⟨b, off + j * 3 + 2, none⟩ = some (.bool L[j].has))
  (i : Nat) (u : Value) (h : (L.flatMap Prm.cells)[i]? = some u) : w.cell? ⟨b, off + i, none⟩ = some u := by
 have hi : i < L.length * 3 := by rw [← flatP_len]; exact (List.getElem?_eq_some_iff.1 h).1
 have hj : i / 3 < L.length := by omega
 have e := flat_at L (i / 3) hj (i % 3) (Nat.mod_lt _ (by decide))
 rw [show i / 3 * 3 + i % 3 = i by omega, h] at e
 obtain ⟨h0, h1, h2⟩ := hc (i / 3) hj
 have hr : i % 3 = 0 ∨ i % 3 = 1 ∨ i % 3 = 2 := by omega
 rcases hr with hr | hr | hr <;> rw [hr] at e <;> simp [Prm.cells] at e <;> rw [e]
 ·rw [show off + i = off + i / 3 * 3 by omega]; exact h0
 ·rw [show off + i = off + i / 3 * 3 + 1 by omega]; exact h1
 ·rw [show off + i = off + i / 3 * 3 + 2 by omega]; exact h2
section
variable {P : Program} {ops : Array Oper} {rest : List Oper} {o : Oper} {a : Act} {Q : Exit → Act → World → Prop}
theorem wpList_clP {w : World} {t : TypeId} {L : List Prm} {s x : Operand} {ao : Option Addr} {vx : Value}
  (hgd : o.guard = none) (ho : o.op = .call { callee := .builtin .append, args := #[s, x], argTypes := #[t, t] })
  (ht : P.underlying t = some (.slice 85)) (hi : infoIs P 85 (.agg #[.string ⟨#[]⟩, .string ⟨#[]⟩, .bool false]) 3 40)
  (hx : a.eval x = vx) (hs : a.eval s = .slice ao 0 0) (hR : RPrms w vx L) (hL : L ≠ []) (hbd : L.length * 40 ≤ 140737488355328)
  (hk : ∀ v' w', Prms w' w.heap.size v' L → Below w.heap.size w w' → wpList P ops Q rest (a.put o.dst v') w') :
  wpList P ops Q (o :: rest) a w := by
 obtain ⟨i, hi0, hi1, hi2, hi3⟩ := info_parts hi
 rcases hR with ⟨_, h0⟩ | ⟨b, off, cap, rfl, hc1, hc2, hlt, hcells⟩
 ·exact absurd h0 hL
 have hpos : 0 < L.length := List.length_pos_iff.2 hL
 refine wpList_append_grows w hgd s x t ho 85 i _ 3 40 ht hi0 hi1 hi2 hi3 rfl (by decide) ao 0 0 [] hs (fun _ => ⟨rfl, rfl⟩) rfl (fun _ _ j u h => by simp at h) ⟨b, off, none⟩ L.length cap (L.flatMap Prm.cells) hx (flatP_len L) ?_ (flatP_one L) (by omega) (by unfold maxLen at hc2 ⊢; omega) (by omega) ?_
 ·intro j u h
  rw [add_cell]; exact prms_flat hcells j u h
 ·intro v' w' h1 h2
  refine hk v' w' ?_ ((Below.refl _ _).grown h2 (ρ _) (fun _ h => by cases h))
  unfold Prms; simpa using h1
theorem wpList_clS {w : World} {t e : TypeId} {L : List (List UInt8)} {s x : Operand} {ao : Option Addr} {vx : Value}
  (hgd : o.guard = none) (ho : o.op = .call { callee := .builtin .append, args := #[s, x], argTypes := #[t, t] })
  (ht : P.underlying t = some (.slice e)) (hi : infoIs P e (.string ⟨#[]⟩) 1 16)
  (hx : a.eval x = vx) (hs : a.eval s = .slice ao 0 0) (hR : RStrs w vx L) (hL : L ≠ []) (hbd : L.length * 16 ≤ 140737488355328)
  (hk : ∀ v' w', Strs w' w.heap.size e v' L → Below w.heap.size w w' → wpList P ops Q rest (a.put o.dst v') w') :
  wpList P ops Q (o :: rest) a w := by
 obtain ⟨i, hi0, hi1, hi2, hi3⟩ := info_parts hi
 rcases hR.cases with ⟨_, h0⟩ | ⟨b, off, cap, rfl, hc1, hc2, hlt, hcells⟩
 ·exact absurd h0 hL
 have hpos : 0 < L.length := List.length_pos_iff.2 hL
 refine wpList_append_grows w hgd s x t ho e i _ 1 16 ht hi0 hi1 hi2 hi3 rfl (by decide) ao 0 0 [] hs (fun _ => ⟨rfl, rfl⟩) rfl (fun _ _ j u h => by simp at h) ⟨b, off, none⟩ L.length cap (L.map sv) hx (by simp) ?_ ?_ (by omega) (by unfold maxLen at hc2 ⊢; omega) (by omega) ?_
 ·intro j u hu
  rw [add_cell]
  have hj : j < L.length := by
   have := (List.getElem?_eq_some_iff.1 hu).1; simpa using this
  have hu' : u = .string (bs L[j]) := by
   have := (List.getElem?_eq_some_iff.1 hu).2; rw [← this]; simp [sv]
  rw [hu']; exact hcells j hj
 ·intro u hu
  obtain ⟨m, _, rfl⟩ := List.mem_map.1 hu
  rfl
 ·intro v' w' h1 h2
  refine hk v' w' ?_ ((Below.refl _ _).grown h2 (ρ _) (fun _ h => by cases h))
  unfold Strs; simpa using h1
end
theorem Prms.built (w : World) (base : Nat) (hb : base ≤ w.heap.size) : Prms (w.alloc (.cells #[] 85)) base (.slice (some ⟨w.heap.size, 0, none⟩) 0 0) [] :=
 ⟨rfl, .inr ⟨w.heap.size, 0, #[], rfl, hb, by unfold World.alloc; simp, ρ _, Nat.zero_le _, rfl, rfl⟩⟩
theorem ownsRow_weaken {w : World} {base base' : Nat} {e : TypeId} {n : Nat} {v : Value} {m : Nat} {xs : List Value} (h : w.ownsRow base e n v m xs) (hb : base' ≤ base) : w.ownsRow base' e n v m xs :=
 ⟨h.1, h.2.imp id (fun ⟨g, cap, cur, hv, hg, r⟩ => ⟨g, cap, cur, hv, Nat.le_trans hb hg, r⟩)⟩
theorem app_none {P : Program} {t ty e : TypeId} {z : Value} {size bytes : Nat} (ht : P.underlying t = some (.slice e)) (hi : infoIs P e z size bytes) (b c : Nat) (ad : Addr) (w : World) :
  (Builtin.append_ #[t, t] ty #[.slice (some ⟨b, 0, none⟩) 0 0, .slice (some ad) 0 c]).run P w = .ok (.slice (some ⟨b, 0, none⟩) 0 0) w := by
 obtain ⟨i, hi0, _, _, _⟩ := info_parts hi
 have := run_append_room_cells (P := P) w t ty e i ht hi0 b 0 0 0 ad 0 c [] (by simp) (fun j u h => by simp at h) (fun u h => by cases h) (ρ _) (fun j h => by simp at h) (fun j h => by simp at h)
 rw [this]
 first | rfl | simp [World.setCells]
set_option maxHeartbeats 1600000 in
theorem cloneP_c (v : Value) (L : List Prm) (w : World) (h : RPrms w v L) (hl : L.length ≤ 1099511627776) :
  Calls Tryz.prog 79 #[v] w fun e w' => ∃ u, e = .returned u ∧ Prms w' w.heap.size u L ∧ Below w.heap.size w w' := by
 obtain ⟨ao, cap, rfl, hm, c1⟩ := h.form
 have H := κ h
 have qT : ∀ (w : World) (a : Option Addr) (n c n' c' : Nat), (binOp .eql 22 (.slice a n c) (.slice none n' c')).run Tryz.prog w = .ok (.bool a.isNone) w := fun w a n c n' c' => Lib.run_eql_slice_nil w _ _ a n c n' c' Tryz.underlying22
 have hBA := (Below.refl w.heap.size w).alloc (ρ _) (.cells #[] 85)
 have HA := κ (h.below ((Below.refl w.heap.size w).alloc (ρ _) (.cells #[] 85)) (ρ _))
 cases ao with
 | none =>
  have hL : L = [] := by
   cases L with
   | nil => rfl
   | cons p r => obtain ⟨b, off, e, _⟩ := c1 (by simp); cases e
  subst hL
  clear c1 h HA
  go_enter Tryz.func79, Tryz.ntmps79
  go_wp2
  go_ret
  exact ⟨_, rfl, Prms.nil _ _, Below.refl _ _⟩
 | some ad =>
  by_cases hL : L = []
  ·subst hL
   have hap := fun wx => app_none (P := Tryz.prog) (ty := 22) Tryz.underlying22 infoP w.heap.size cap ad wx
   clear c1 h HA
   go_enter Tryz.func79, Tryz.ntmps79
   go_wp2
   go_ret
   exact ⟨_, rfl, Prms.built _ _ (ρ _), hBA⟩
  ·clear c1 h
   go_enter Tryz.func79, Tryz.ntmps79
   go_wp2_with (at_builtin; refine wpList_clP rfl rfl Tryz.underlying22 infoP rfl rfl HA.out hL (by omega) ?_; intro v' w' hP hB)
   go_ret
   exact ⟨_, rfl, ownsRow_weaken hP (by rw [World.size_alloc]; omega), hBA.trans (hB.mono hBA.size)⟩
set_option maxHeartbeats 1600000 in
theorem cloneS_c (v : Value) (L : List (List UInt8)) (w : World) (h : RStrs w v L) (hl : L.length ≤ 1099511627776) :
  Calls Tryz.prog 35 #[v] w fun e w' => ∃ u, e = .returned u ∧ Strs w' w.heap.size 9 u L ∧ Below w.heap.size w w' := by
 obtain ⟨ao, cap, rfl, hm, c1⟩ := h.form
 have H := κ h
 have qT : ∀ (w : World) (a : Option Addr) (n c n' c' : Nat), (binOp .eql 30 (.slice a n c) (.slice none n' c')).run Tryz.prog w = .ok (.bool a.isNone) w := fun w a n c n' c' => Lib.run_eql_slice_nil w _ _ a n c n' c' Tryz.underlying30
 have hBA := (Below.refl w.heap.size w).alloc (ρ _) (.cells #[] 9)
 have HA := κ (h.below ((Below.refl w.heap.size w).alloc (ρ _) (.cells #[] 9)) (ρ _))
 cases ao with
 | none =>
  have hL : L = [] := by
   cases L with
   | nil => rfl
   | cons p r => obtain ⟨b, off, e, _⟩ := c1 (by simp); cases e
  subst hL
  clear c1 h HA
  go_enter Tryz.func35, Tryz.ntmps35
  go_wp2
  go_ret
  exact ⟨_, rfl, Strs.nil _ _ _, Below.refl _ _⟩
 | some ad =>
  by_cases hL : L = []
  ·subst hL
   have hap := fun wx => app_none (P := Tryz.prog) (ty := 30) Tryz.underlying30 infoS w.heap.size cap ad wx
   clear c1 h HA
   go_enter Tryz.func35, Tryz.ntmps35
   go_wp2
   go_ret
   exact ⟨_, rfl, Strs.built _ _ _ (ρ _), hBA⟩
  ·clear c1 h
   go_enter Tryz.func35, Tryz.ntmps35
   go_wp2_with (at_builtin; refine wpList_clS rfl rfl Tryz.underlying30 infoS rfl rfl HA.out hL (by omega) ?_; intro v' w' hP hB)
   go_ret
   exact ⟨_, rfl, ownsRow_weaken hP (by rw [World.size_alloc]; omega), hBA.trans (hB.mono hBA.size)⟩
end Go.Proofs.YtipdiddjhimdcaaGreatDoor
