/-
  Packed: XWh, XClnA, XCln, XDia, XBlkS.
-/
import Derived.Test.YtipdiddjhimdcaaGreatDoorK15
import Derived.Test.YtipdiddjhimdcaaGreatDoorK14
import Derived.Test.YtipdiddjhimdcaaGreatDoorK05
import Derived.ArgAppend
import Derived.Lib.SliceRun
import Derived.Test.YtipdiddjhimdcaaGreatDoorK12
import Derived.Deep.RegionWith
import Derived.Laws.IdiomCopy
import Derived.Laws.Cells
namespace Go.Proofs.YtipdiddjhimdcaaGreatDoor
set_option linter.unusedSimpArgs false
set_option linter.unusedVariables false
open Go.RowKit Go.Sort


/-- a dialog's cells, one by one -/
theorem RDlg.lit {w : World} {v : Value} {d : Dlg} (h : RDlg w v d) : ∃ e1 y1 e2 y2 e3 y3 e4 y4 e5 y5 e6 y6 e7 y7 e8 y8 e9 y9, v = .agg #[.string (bs d.call), .string (bs d.loc.disp), .string (bs d.loc.uri.scheme), .string (bs d.loc.uri.user), .string (bs d.loc.uri.host), .int .i64 d.loc.uri.port, .slice e1 d.loc.uri.ps.length y1, .slice e2 d.loc.uri.hs.length y2, .slice e3 d.loc.ps.length y3, .string (bs d.rem.disp), .string (bs d.rem.uri.scheme), .string (bs d.rem.uri.user), .string (bs d.rem.uri.host), .int .i64 d.rem.uri.port, .slice e4 d.rem.uri.ps.length y4, .slice e5 d.rem.uri.hs.length y5, .slice e6 d.rem.ps.length y6, .string (bs d.tgt.scheme), .string (bs d.tgt.user), .string (bs d.tgt.host), .int .i64 d.tgt.port, .slice e7 d.tgt.ps.length y7, .slice e8 d.tgt.hs.length y8, .slice e9 d.routes.length y9, .int .i64 d.lin, .int .i64 d.lout] ∧ RPrms w (.slice e1 d.loc.uri.ps.length y1) d.loc.uri.ps ∧ RPrms w (.slice e2 d.loc.uri.hs.length y2) d.loc.uri.hs ∧ RPrms w (.slice e3 d.loc.ps.length y3) d.loc.ps ∧ RPrms w (.slice e4 d.rem.uri.ps.length y4) d.rem.uri.ps ∧ RPrms w (.slice e5 d.rem.uri.hs.length y5) d.rem.uri.hs ∧ RPrms w (.slice e6 d.rem.ps.length y6) d.rem.ps ∧ RPrms w (.slice e7 d.tgt.ps.length y7) d.tgt.ps ∧ RPrms w (.slice e8 d.tgt.hs.length y8) d.tgt.hs ∧ RStrs w (.slice e9 d.routes.length y9) d.routes := by
  obtain ⟨u1, u2, u3, u4, u5, u6, u7, u8, u9, rfl, h1, h2, h3, h4, h5, h6, h7, h8, h9⟩ := h
  obtain ⟨e1, y1, rfl, _⟩ := h1.form
  obtain ⟨e2, y2, rfl, _⟩ := h2.form
  obtain ⟨e3, y3, rfl, _⟩ := h3.form
  obtain ⟨e4, y4, rfl, _⟩ := h4.form
  obtain ⟨e5, y5, rfl, _⟩ := h5.form
  obtain ⟨e6, y6, rfl, _⟩ := h6.form
  obtain ⟨e7, y7, rfl, _⟩ := h7.form
  obtain ⟨e8, y8, rfl, _⟩ := h8.form
  obtain ⟨e9, y9, rfl, _⟩ := h9.form
  exact ⟨e1, y1, e2, y2, e3, y3, e4, y4, e5, y5, e6, y6, e7, y7, e8, y8, e9, y9, rfl, h1, h2, h3, h4, h5, h6, h7, h8, h9⟩

set_option maxHeartbeats 1600000 in
theorem first_c (v : Value) (L : List (List UInt8)) (w : World) (hv : RStrs w v L) :
    Calls Tryz.prog 70 #[v] w fun e w' => e = .returned (.tuple #[.string (bs (L.headD [])), .bool (L != [])]) ∧ w' = w := by
  obtain ⟨ao, cap, rfl, hm1, c1⟩ := hv.form
  unfold maxLen at hm1
  cases L with
  | nil =>
    clear c1
    go_enter Tryz.func70, Tryz.ntmps70
    go_wp2
    go_ret2
    exact ⟨rfl, rfl⟩
  | cons x r =>
    obtain ⟨b, off, rfl, hb1, hc1⟩ := c1 (by simp)
    have x0 := hc1 0 (by simp)
    rw [Nat.add_zero] at x0
    have k1 : (0 : Int) < ((x :: r).length : Int) := by simp
    have k2 : (((x :: r).length : Int) == 0) = false := by simp; omega
    have hL : (x :: r).headD [] = x := rfl
    have hN : (x :: r != []) = true := rfl
    clear hc1 c1
    go_enter Tryz.func70, Tryz.ntmps70
    go_wp2
    go_ret2
    exact ⟨by rw [hL, hN]; rfl, rfl⟩

theorem whereD_cases (d : Dlg) : (d.routes = [] ∧ whereD d = byU d.tgt) ∨ (∃ x r, d.routes = x :: r ∧ (((parseA x).2 ≠ 0 ∧ whereD d = []) ∨ ((parseA x).2 = 0 ∧ whereD d = byU (parseA x).1.uri))) := by
  unfold whereD
  cases d.routes with
  | nil => exact .inl ⟨rfl, rfl⟩
  | cons x r =>
    refine .inr ⟨x, r, rfl, ?_⟩
    by_cases h : (parseA x).2 = 0
    · exact .inr ⟨h, by dsimp only; rw [if_pos h]⟩
    · exact .inl ⟨h, by dsimp only; rw [if_neg h]⟩
theorem RPrms.emp (w : World) : RPrms w (.slice none 0 0) [] := .inl ⟨⟨_, _, rfl⟩, rfl⟩

set_option maxRecDepth 100000 in
set_option maxHeartbeats 6400000 in
theorem whereD_c (vd : Value) (d : Dlg) (w : World) (hm : Ml w) (hd : RDlg w vd d) (hh : d.tgt.host.length ≤ 4294967280) (p0 : -9223372036854775808 ≤ d.tgt.port) (p1 : d.tgt.port ≤ 9223372036854775807) (hr : ∀ x ∈ d.routes, x.length ≤ 4294967280)
    (hpp : ∀ x ∈ d.routes, (parseA x).2 = 0 → (parseA x).1.uri.host.length ≤ 4294967280 ∧ -9223372036854775808 ≤ (parseA x).1.uri.port ∧ (parseA x).1.uri.port ≤ 9223372036854775807) :
    Calls Tryz.prog 27 #[vd] w fun e w' => e = .returned (.string (bs (whereD d))) ∧ Below w.heap.size w w' := by
  obtain ⟨e1, y1, e2, y2, e3, y3, e4, y4, e5, y5, e6, y6, e7, y7, e8, y8, e9, y9, rfl, _, _, _, _, _, _, h7, h8, h9⟩ := hd.lit
  have HM := Lib.hid hm
  obtain ⟨vs, hvs⟩ : ∃ vs : Array Value, vs = #[.string (bs d.call), .string (bs d.loc.disp), .string (bs d.loc.uri.scheme), .string (bs d.loc.uri.user), .string (bs d.loc.uri.host), .int .i64 d.loc.uri.port, .slice e1 d.loc.uri.ps.length y1, .slice e2 d.loc.uri.hs.length y2, .slice e3 d.loc.ps.length y3, .string (bs d.rem.disp), .string (bs d.rem.uri.scheme), .string (bs d.rem.uri.user), .string (bs d.rem.uri.host), .int .i64 d.rem.uri.port, .slice e4 d.rem.uri.ps.length y4, .slice e5 d.rem.uri.hs.length y5, .slice e6 d.rem.ps.length y6, .string (bs d.tgt.scheme), .string (bs d.tgt.user), .string (bs d.tgt.host), .int .i64 d.tgt.port, .slice e7 d.tgt.ps.length y7, .slice e8 d.tgt.hs.length y8, .slice e9 d.routes.length y9, .int .i64 d.lin, .int .i64 d.lout] := ⟨_, rfl⟩
  rw [← hvs]
  have hB0 : Below w.heap.size w (w.alloc (.cells vs 34)) := (Below.refl _ _).alloc (Nat.le_refl _) _
  have bd : Blk (w.alloc (.cells vs 34)) w.heap.size 34 vs := Blk.new w 34 vs
  obtain ⟨w0, hw0⟩ : ∃ w0, w0 = (w.alloc (.cells vs 34)) := ⟨_, rfl⟩
  rw [← hw0] at hB0 bd
  have HW0 := Lib.hid hw0
  have c17 : w0.cell? ⟨w.heap.size, 17, none⟩ = some (.string (bs d.tgt.scheme)) := (boxedCell bd 17).trans (by rw [hvs]; rfl)
  have c18 : w0.cell? ⟨w.heap.size, 18, none⟩ = some (.string (bs d.tgt.user)) := (boxedCell bd 18).trans (by rw [hvs]; rfl)
  have c19 : w0.cell? ⟨w.heap.size, 19, none⟩ = some (.string (bs d.tgt.host)) := (boxedCell bd 19).trans (by rw [hvs]; rfl)
  have c20 : w0.cell? ⟨w.heap.size, 20, none⟩ = some (.int .i64 d.tgt.port) := (boxedCell bd 20).trans (by rw [hvs]; rfl)
  have c21 : w0.cell? ⟨w.heap.size, 21, none⟩ = some (.slice e7 d.tgt.ps.length y7) := (boxedCell bd 21).trans (by rw [hvs]; rfl)
  have c22 : w0.cell? ⟨w.heap.size, 22, none⟩ = some (.slice e8 d.tgt.hs.length y8) := (boxedCell bd 22).trans (by rw [hvs]; rfl)
  have c23 : w0.cell? ⟨w.heap.size, 23, none⟩ = some (.slice e9 d.routes.length y9) := (boxedCell bd 23).trans (by rw [hvs]; rfl)
  have hlt := bd.lt
  have hB1 : Below w.heap.size w (w0.alloc (.cells #[.string (bs d.tgt.scheme), .string (bs d.tgt.user), .string (bs d.tgt.host), .int .i64 d.tgt.port, .slice e7 d.tgt.ps.length y7, .slice e8 d.tgt.hs.length y8] 24)) := hB0.alloc hB0.size _
  have bu := Blk.new w0 24 #[.string (bs d.tgt.scheme), .string (bs d.tgt.user), .string (bs d.tgt.host), .int .i64 d.tgt.port, .slice e7 d.tgt.ps.length y7, .slice e8 d.tgt.hs.length y8]
  have bd1 := bd.alloc (.cells #[.string (bs d.tgt.scheme), .string (bs d.tgt.user), .string (bs d.tgt.host), .int .i64 d.tgt.port, .slice e7 d.tgt.ps.length y7, .slice e8 d.tgt.hs.length y8] 24)
  have d23 : (w0.alloc (.cells #[.string (bs d.tgt.scheme), .string (bs d.tgt.user), .string (bs d.tgt.host), .int .i64 d.tgt.port, .slice e7 d.tgt.ps.length y7, .slice e8 d.tgt.hs.length y8] 24)).cell? ⟨w.heap.size, 23, none⟩ = some (.slice e9 d.routes.length y9) := (boxedCell bd1 23).trans (by rw [hvs]; rfl)
  have H9 := Lib.hid (h9.below hB1 (Nat.le_refl _))
  obtain ⟨w1, hw1⟩ : ∃ x, x = w0.alloc (.cells #[.string (bs d.tgt.scheme), .string (bs d.tgt.user), .string (bs d.tgt.host), .int .i64 d.tgt.port, .slice e7 d.tgt.ps.length y7, .slice e8 d.tgt.hs.length y8] 24) := ⟨_, rfl⟩
  rw [← hw1] at hB1 bu bd1 d23 H9
  have HF := Lib.hid (first_c _ d.routes w1 H9.out)
  obtain ⟨OK, hOK⟩ : ∃ x, x = (d.routes != []) := ⟨_, rfl⟩
  obtain ⟨FH, hFH⟩ : ∃ x, x = d.routes.headD [] := ⟨_, rfl⟩
  rw [← hOK, ← hFH] at HF
  have HW1 := Lib.hid hw1
  have hcs := whereD_cases d
  have hs1 : w0.heap.size < w1.heap.size := bu.lt
  obtain ⟨g, hg⟩ : ∃ g, g = w0.heap.size := ⟨_, rfl⟩
  have HG := Lib.hid hg
  rw [← hg] at bu hs1
  have hgB : w.heap.size ≤ g := by rw [hg]; exact hB0.size
  clear hw0 hw1 hvs hd h9 hm bd bd1 hg
  rcases hcs with ⟨hr0, hT⟩ | ⟨x, r, hxr, hcs⟩
  · have HT := Lib.hid (show whereD d = byV ⟨d.tgt.host, d.tgt.port, []⟩ from hT)
    obtain rfl : OK = false := by rw [hOK, hr0]; rfl
    clear hOK hFH hT hr hpp hr0
    obtain ⟨q0, q1, q2, q3, q4, q5⟩ := blk_f6 bu
    have HBY := Lib.hid (byV_c (bs d.tgt.host) d.tgt.port (.slice none 0 0) [] (by rw [size_bs]; exact hh) p0 p1 w1 (RPrms.emp w1))
    rw [us_bs] at HBY
    go_enter Tryz.func27, Tryz.ntmps27
    go_upto_region 1 with fail
    rw [← HW0.out]
    go_upto_region 2 with fail
    simp only [← HG.out]
    rw [← HW1.out]
    go_wp2_with (first | (go_at_call 70; refine HF.out.mono ?_; rintro e wx ⟨rfl, rfl⟩) | (go_at_call 71; refine HBY.out.mono ?_; rintro e w9 ⟨rfl, hC⟩))
    go_ret
    refine ⟨?_, hB1.trans (hC.mono hB1.size)⟩
    exact congrArg (fun x => Ending.returned (.string (bs x))) HT.out.symm
  · have hxl := hr x (by rw [hxr]; exact List.mem_cons_self ..)
    have hpx := hpp x (by rw [hxr]; exact List.mem_cons_self ..)
    obtain rfl : OK = true := by rw [hOK, hxr]; rfl
    obtain rfl : FH = x := by rw [hFH, hxr]; rfl
    clear hOK hFH hr hpp hxr
    have HP := Lib.hid (parseA_c (bs FH) (by rw [size_bs]; exact hxl) w1 (HM.out.below hB1))
    rw [us_bs] at HP
    obtain ⟨R, hR⟩ : ∃ R, R = parseA FH := ⟨_, rfl⟩
    rw [← hR] at HP hcs hpx
    clear hR hxl
    obtain ⟨ra, rc⟩ := R
    dsimp only at HP hcs hpx
    unfold AdrPost at HP
    dsimp only at HP
    unfold sv at HP
    rcases hcs with ⟨hc, hT⟩ | ⟨hc, hT⟩
    · have HT := Lib.hid hT
      have t1 : (rc != 0) = true := by simpa using hc
      clear hT hc hpx
      go_enter Tryz.func27, Tryz.ntmps27
      go_upto_region 1 with fail
      rw [← HW0.out]
      go_upto_region 2 with fail
      simp only [← HG.out]
      rw [← HW1.out]
      go_wp2_with (first | (go_at_call 70; refine HF.out.mono ?_; rintro e wx ⟨rfl, rfl⟩) | (go_at_call 18; refine HP.out.mono ?_; rintro e w2 ⟨u1, u2, u3, rfl, hu1, hu2, hu3, _, _, _, hC⟩; obtain ⟨a1, f1, rfl⟩ := hu1.form'; obtain ⟨a2, f2, rfl⟩ := hu2.form'; obtain ⟨a3, f3, rfl⟩ := hu3.form'; have hB2 := hB1.trans (hC.mono hB1.size)))
      go_ret
      exact ⟨congrArg (fun x => Ending.returned (.string (bs x))) HT.out.symm, hB2.alloc hB2.size _⟩
    · obtain ⟨hh2, p2, p3⟩ := hpx hc
      subst hc
      have HT := Lib.hid (show whereD d = byV ⟨ra.uri.host, ra.uri.port, []⟩ from hT)
      clear hT hpx
      have HBY := Lib.hid (fun wx => byV_c (bs ra.uri.host) ra.uri.port (.slice none 0 0) [] (by rw [size_bs]; exact hh2) p2 p3 wx (RPrms.emp wx))
      rw [us_bs] at HBY
      go_enter Tryz.func27, Tryz.ntmps27
      go_upto_region 1 with fail
      rw [← HW0.out]
      go_upto_region 2 with fail
      simp only [← HG.out]
      rw [← HW1.out]
      go_upto_region 7 with (first | (go_at_call 70; refine HF.out.mono ?_; rintro e wx ⟨rfl, rfl⟩) | (go_at_call 18; refine HP.out.mono ?_; rintro e w2 ⟨u1, u2, u3, rfl, hu1, hu2, hu3, _, _, _, hC⟩; obtain ⟨a1, f1, rfl⟩ := hu1.form'; obtain ⟨a2, f2, rfl⟩ := hu2.form'; obtain ⟨a3, f3, rfl⟩ := hu3.form'; have hB2 := hB1.trans (hC.mono hB1.size)))
      have ba := Blk.new w2 26 #[.string (bs ra.disp), .string (bs ra.uri.scheme), .string (bs ra.uri.user), .string (bs ra.uri.host), .int .i64 ra.uri.port, .slice a1 ra.uri.ps.length f1, .slice a2 ra.uri.hs.length f2, .slice a3 ra.ps.length f3]
      have bu2 := (bu.call hC).alloc (.cells #[.string (bs ra.disp), .string (bs ra.uri.scheme), .string (bs ra.uri.user), .string (bs ra.uri.host), .int .i64 ra.uri.port, .slice a1 ra.uri.ps.length f1, .slice a2 ra.uri.hs.length f2, .slice a3 ra.ps.length f3] 26)
      have hB3 := hB2.alloc hB2.size (.cells #[.string (bs ra.disp), .string (bs ra.uri.scheme), .string (bs ra.uri.user), .string (bs ra.uri.host), .int .i64 ra.uri.port, .slice a1 ra.uri.ps.length f1, .slice a2 ra.uri.hs.length f2, .slice a3 ra.ps.length f3] 26)
      have hg3 : g ≠ w2.heap.size := Nat.ne_of_lt (bu.call hC).lt
      obtain ⟨w3, hw3⟩ : ∃ x, x = w2.alloc (.cells #[.string (bs ra.disp), .string (bs ra.uri.scheme), .string (bs ra.uri.user), .string (bs ra.uri.host), .int .i64 ra.uri.port, .slice a1 ra.uri.ps.length f1, .slice a2 ra.uri.hs.length f2, .slice a3 ra.ps.length f3] 26) := ⟨_, rfl⟩
      rw [← hw3] at ba bu2 hB3
      rw [← hw3]
      clear hw3
      obtain ⟨r0, r1, r2, r3, r4, r5, r6, r7, _, _, _, _, _, _, _, _, zR⟩ := blk_h8 ba
      obtain ⟨q0, q1, q2, q3, q4, q5⟩ := blk_f6 bu2
      have zf0 := boxedFree bu2 0
      have zf1 := boxedFree bu2 1
      have zf2 := boxedFree bu2 2
      have zf3 := boxedFree bu2 3
      have zf4 := boxedFree bu2 4
      have zf5 := boxedFree bu2 5
      have hB4 := hB3.setCell (p := ⟨g, 0, none⟩) hgB (.string (bs ra.uri.scheme))
      have hB5 := ((((((hB3.setCell (p := ⟨g, 0, none⟩) hgB (.string (bs ra.uri.scheme))).setCell (p := ⟨g, 1, none⟩) hgB (.string (bs ra.uri.user))).setCell (p := ⟨g, 2, none⟩) hgB (.string (bs ra.uri.host))).setCell (p := ⟨g, 3, none⟩) hgB (.int .i64 ra.uri.port)).setCell (p := ⟨g, 4, none⟩) hgB (.slice a1 ra.uri.ps.length f1)).setCell (p := ⟨g, 5, none⟩) hgB (.slice a2 ra.uri.hs.length f2))
      clear hB4
      go_wp2_with (go_at_call 71; refine (HBY.out _).mono ?_; rintro e w9 ⟨rfl, hC9⟩)
      go_ret
      refine ⟨?_, hB5.trans (hC9.mono hB5.size)⟩
      exact congrArg (fun x => Ending.returned (.string (bs x))) HT.out.symm

end Go.Proofs.YtipdiddjhimdcaaGreatDoor

namespace Go.Proofs.YtipdiddjhimdcaaGreatDoor
set_option linter.unusedSimpArgs false
set_option linter.unusedVariables false
open Go.RowKit

theorem flatP_len : ∀ L : List Prm, (L.flatMap Prm.cells).length = L.length * 3
  | [] => rfl
  | p :: r => by rw [List.flatMap_cons, List.length_append, flatP_len r, List.length_cons]; simp [Prm.cells]; omega
theorem flatP_one (L : List Prm) : ∀ u ∈ L.flatMap Prm.cells, u.oneCell' = true := by
  intro u hu
  obtain ⟨p, _, hu⟩ := List.mem_flatMap.1 hu
  simp only [Prm.cells, sv, List.mem_cons, List.not_mem_nil, or_false] at hu
  rcases hu with rfl | rfl | rfl <;> rfl
theorem prms_flat {w : World} {b off : Nat} {L : List Prm} (hc : ∀ j (hj : j < L.length), w.cell? ⟨b, off + j * 3, none⟩ = some (sv L[j].name) ∧ w.cell? ⟨b, off + j * 3 + 1, none⟩ = some (sv L[j].value) ∧ w.cell? ⟨b, off + j * 3 + 2, none⟩ = some (.bool L[j].has))
    (i : Nat) (u : Value) (h : (L.flatMap Prm.cells)[i]? = some u) : w.cell? ⟨b, off + i, none⟩ = some u := by
  have hi : i < L.length * 3 := by rw [← flatP_len]; exact (List.getElem?_eq_some_iff.1 h).1
  have hj : i / 3 < L.length := by omega
  have e := flat_at L (i / 3) hj (i % 3) (Nat.mod_lt _ (by decide))
  rw [show i / 3 * 3 + i % 3 = i by omega, h] at e
  obtain ⟨h0, h1, h2⟩ := hc (i / 3) hj
  have hr : i % 3 = 0 ∨ i % 3 = 1 ∨ i % 3 = 2 := by omega
  rcases hr with hr | hr | hr <;> rw [hr] at e <;> simp [Prm.cells] at e <;> rw [e]
  · rw [show off + i = off + i / 3 * 3 by omega]; exact h0
  · rw [show off + i = off + i / 3 * 3 + 1 by omega]; exact h1
  · rw [show off + i = off + i / 3 * 3 + 2 by omega]; exact h2
section
variable {P : Program} {ops : Array Oper} {rest : List Oper} {o : Oper} {a : Act} {Q : Exit → Act → World → Prop}
theorem add_cell (b off j : Nat) : (⟨b, off, none⟩ : Addr).add j = ⟨b, off + j, none⟩ := by unfold Addr.add; split <;> simp_all
/-- append of some parameters to a slice without room -/
theorem wpList_clP {w : World} {t : TypeId} {L : List Prm} {s x : Operand} {ao : Option Addr} {vx : Value}
    (hgd : o.guard = none) (ho : o.op = .call { callee := .builtin .append, args := #[s, x], argTypes := #[t, t] })
    (ht : P.underlying t = some (.slice 85)) (hi : infoIs P 85 (.agg #[.string ⟨#[]⟩, .string ⟨#[]⟩, .bool false]) 3 40)
    (hx : a.eval x = vx) (hs : a.eval s = .slice ao 0 0) (hR : RPrms w vx L) (hL : L ≠ []) (hbd : L.length * 40 ≤ 140737488355328)
    (hk : ∀ v' w', Prms w' w.heap.size v' L → Below w.heap.size w w' → wpList P ops Q rest (a.put o.dst v') w') :
    wpList P ops Q (o :: rest) a w := by
  obtain ⟨i, hi0, hi1, hi2, hi3⟩ := info_parts hi
  rcases hR with ⟨_, h0⟩ | ⟨b, off, cap, rfl, hc1, hc2, hlt, hcells⟩
  · exact absurd h0 hL
  have hpos : 0 < L.length := List.length_pos_iff.2 hL
  refine wpList_append_grows w hgd s x t ho 85 i _ 3 40 ht hi0 hi1 hi2 hi3 rfl (by decide) ao 0 0 [] hs (fun _ => ⟨rfl, rfl⟩) rfl (fun _ _ j u h => by simp at h) ⟨b, off, none⟩ L.length cap (L.flatMap Prm.cells) hx (flatP_len L) ?_ (flatP_one L) (by omega) (by unfold maxLen at hc2 ⊢; omega) (by omega) ?_
  · intro j u h
    rw [add_cell]; exact prms_flat hcells j u h
  · intro v' w' h1 h2
    refine hk v' w' ?_ ((Below.refl _ _).grown h2 (Nat.le_refl _) (fun _ h => by cases h))
    unfold Prms; simpa using h1
/-- append of some texts to a slice without room -/
theorem wpList_clS {w : World} {t e : TypeId} {L : List (List UInt8)} {s x : Operand} {ao : Option Addr} {vx : Value}
    (hgd : o.guard = none) (ho : o.op = .call { callee := .builtin .append, args := #[s, x], argTypes := #[t, t] })
    (ht : P.underlying t = some (.slice e)) (hi : infoIs P e (.string ⟨#[]⟩) 1 16)
    (hx : a.eval x = vx) (hs : a.eval s = .slice ao 0 0) (hR : RStrs w vx L) (hL : L ≠ []) (hbd : L.length * 16 ≤ 140737488355328)
    (hk : ∀ v' w', Strs w' w.heap.size e v' L → Below w.heap.size w w' → wpList P ops Q rest (a.put o.dst v') w') :
    wpList P ops Q (o :: rest) a w := by
  obtain ⟨i, hi0, hi1, hi2, hi3⟩ := info_parts hi
  rcases hR.cases with ⟨_, h0⟩ | ⟨b, off, cap, rfl, hc1, hc2, hlt, hcells⟩
  · exact absurd h0 hL
  have hpos : 0 < L.length := List.length_pos_iff.2 hL
  refine wpList_append_grows w hgd s x t ho e i _ 1 16 ht hi0 hi1 hi2 hi3 rfl (by decide) ao 0 0 [] hs (fun _ => ⟨rfl, rfl⟩) rfl (fun _ _ j u h => by simp at h) ⟨b, off, none⟩ L.length cap (L.map sv) hx (by simp) ?_ ?_ (by omega) (by unfold maxLen at hc2 ⊢; omega) (by omega) ?_
  · intro j u hu
    rw [add_cell]
    have hj : j < L.length := by
      have := (List.getElem?_eq_some_iff.1 hu).1; simpa using this
    have hu' : u = .string (bs L[j]) := by
      have := (List.getElem?_eq_some_iff.1 hu).2; rw [← this]; simp [sv]
    rw [hu']; exact hcells j hj
  · intro u hu
    obtain ⟨m, _, rfl⟩ := List.mem_map.1 hu
    rfl
  · intro v' w' h1 h2
    refine hk v' w' ?_ ((Below.refl _ _).grown h2 (Nat.le_refl _) (fun _ h => by cases h))
    unfold Strs; simpa using h1
end

end Go.Proofs.YtipdiddjhimdcaaGreatDoor

namespace Go.Proofs.YtipdiddjhimdcaaGreatDoor
set_option linter.unusedSimpArgs false
set_option linter.unusedVariables false
open Go.RowKit

theorem Prms.built (w : World) (base : Nat) (hb : base ≤ w.heap.size) : Prms (w.alloc (.cells #[] 85)) base (.slice (some ⟨w.heap.size, 0, none⟩) 0 0) [] :=
  ⟨rfl, .inr ⟨w.heap.size, 0, #[], rfl, hb, by unfold World.alloc; simp, Nat.le_refl _, Nat.zero_le _, rfl, rfl⟩⟩
theorem ownsRow_weaken {w : World} {base base' : Nat} {e : TypeId} {n : Nat} {v : Value} {m : Nat} {xs : List Value} (h : w.ownsRow base e n v m xs) (hb : base' ≤ base) : w.ownsRow base' e n v m xs :=
  ⟨h.1, h.2.imp id (fun ⟨g, cap, cur, hv, hg, r⟩ => ⟨g, cap, cur, hv, Nat.le_trans hb hg, r⟩)⟩
theorem app_none {P : Program} {t ty e : TypeId} {z : Value} {size bytes : Nat} (ht : P.underlying t = some (.slice e)) (hi : infoIs P e z size bytes) (b c : Nat) (ad : Addr) (w : World) :
    (Builtin.append_ #[t, t] ty #[.slice (some ⟨b, 0, none⟩) 0 0, .slice (some ad) 0 c]).run P w = .ok (.slice (some ⟨b, 0, none⟩) 0 0) w := by
  obtain ⟨i, hi0, _, _, _⟩ := info_parts hi
  have := run_append_room_cells (P := P) w t ty e i ht hi0 b 0 0 0 ad 0 c [] (by simp) (fun j u h => by simp at h) (fun u h => by cases h) (Nat.le_refl _) (fun j h => by simp at h) (fun j h => by simp at h)
  rw [this]
  first | rfl | simp [World.setCells]

set_option maxHeartbeats 1600000 in
theorem cloneP_c (v : Value) (L : List Prm) (w : World) (h : RPrms w v L) (hl : L.length ≤ 1099511627776) :
    Calls Tryz.prog 79 #[v] w fun e w' => ∃ u, e = .returned u ∧ Prms w' w.heap.size u L ∧ Below w.heap.size w w' := by
  obtain ⟨ao, cap, rfl, hm, c1⟩ := h.form
  have H := Lib.hid h
  have qT : ∀ (w : World) (a : Option Addr) (n c n' c' : Nat), (binOp .eql 22 (.slice a n c) (.slice none n' c')).run Tryz.prog w = .ok (.bool a.isNone) w := fun w a n c n' c' => Lib.run_eql_slice_nil w _ _ a n c n' c' Tryz.underlying22
  have hBA := (Below.refl w.heap.size w).alloc (Nat.le_refl _) (.cells #[] 85)
  have HA := Lib.hid (h.below ((Below.refl w.heap.size w).alloc (Nat.le_refl _) (.cells #[] 85)) (Nat.le_refl _))
  cases ao with
  | none =>
    have hL : L = [] := by
      cases L with
      | nil => rfl
      | cons p r => obtain ⟨b, off, e, _⟩ := c1 (by simp); cases e
    subst hL
    clear c1 h HA
    go_enter Tryz.func79, Tryz.ntmps79
    go_wp2
    go_ret
    exact ⟨_, rfl, Prms.nil _ _, Below.refl _ _⟩
  | some ad =>
    by_cases hL : L = []
    · subst hL
      have hap := fun wx => app_none (P := Tryz.prog) (ty := 22) Tryz.underlying22 infoP w.heap.size cap ad wx
      clear c1 h HA
      go_enter Tryz.func79, Tryz.ntmps79
      go_wp2
      go_ret
      exact ⟨_, rfl, Prms.built _ _ (Nat.le_refl _), hBA⟩
    · clear c1 h
      go_enter Tryz.func79, Tryz.ntmps79
      go_wp2_with (at_builtin; refine wpList_clP rfl rfl Tryz.underlying22 infoP rfl rfl HA.out hL (by omega) ?_; intro v' w' hP hB)
      go_ret
      exact ⟨_, rfl, ownsRow_weaken hP (by rw [World.size_alloc]; omega), hBA.trans (hB.mono hBA.size)⟩

set_option maxHeartbeats 1600000 in
theorem cloneS_c (v : Value) (L : List (List UInt8)) (w : World) (h : RStrs w v L) (hl : L.length ≤ 1099511627776) :
    Calls Tryz.prog 35 #[v] w fun e w' => ∃ u, e = .returned u ∧ Strs w' w.heap.size 9 u L ∧ Below w.heap.size w w' := by
  obtain ⟨ao, cap, rfl, hm, c1⟩ := h.form
  have H := Lib.hid h
  have qT : ∀ (w : World) (a : Option Addr) (n c n' c' : Nat), (binOp .eql 30 (.slice a n c) (.slice none n' c')).run Tryz.prog w = .ok (.bool a.isNone) w := fun w a n c n' c' => Lib.run_eql_slice_nil w _ _ a n c n' c' Tryz.underlying30
  have hBA := (Below.refl w.heap.size w).alloc (Nat.le_refl _) (.cells #[] 9)
  have HA := Lib.hid (h.below ((Below.refl w.heap.size w).alloc (Nat.le_refl _) (.cells #[] 9)) (Nat.le_refl _))
  cases ao with
  | none =>
    have hL : L = [] := by
      cases L with
      | nil => rfl
      | cons p r => obtain ⟨b, off, e, _⟩ := c1 (by simp); cases e
    subst hL
    clear c1 h HA
    go_enter Tryz.func35, Tryz.ntmps35
    go_wp2
    go_ret
    exact ⟨_, rfl, Strs.nil _ _ _, Below.refl _ _⟩
  | some ad =>
    by_cases hL : L = []
    · subst hL
      have hap := fun wx => app_none (P := Tryz.prog) (ty := 30) Tryz.underlying30 infoS w.heap.size cap ad wx
      clear c1 h HA
      go_enter Tryz.func35, Tryz.ntmps35
      go_wp2
      go_ret
      exact ⟨_, rfl, Strs.built _ _ _ (Nat.le_refl _), hBA⟩
    · clear c1 h
      go_enter Tryz.func35, Tryz.ntmps35
      go_wp2_with (at_builtin; refine wpList_clS rfl rfl Tryz.underlying30 infoS rfl rfl HA.out hL (by omega) ?_; intro v' w' hP hB)
      go_ret
      exact ⟨_, rfl, ownsRow_weaken hP (by rw [World.size_alloc]; omega), hBA.trans (hB.mono hBA.size)⟩

end Go.Proofs.YtipdiddjhimdcaaGreatDoor

namespace Go.Proofs.YtipdiddjhimdcaaGreatDoor
set_option linter.unusedSimpArgs false
set_option linter.unusedVariables false
open Go.RowKit Go.Sort

theorem blkg6 {w : World} {g : Nat} {t : TypeId} {a b c d e f : Value} (h : Blk w g t #[a, b, c, d, e, f]) :
    w.cell? ⟨g, 0, none⟩ = some a ∧ w.cell? ⟨g, 1, none⟩ = some b ∧ w.cell? ⟨g, 2, none⟩ = some c ∧ w.cell? ⟨g, 3, none⟩ = some d ∧ w.cell? ⟨g, 4, none⟩ = some e ∧ w.cell? ⟨g, 5, none⟩ = some f ∧ w.frozen? ⟨g, 0, none⟩ = false ∧ w.frozen? ⟨g, 1, none⟩ = false ∧ w.frozen? ⟨g, 2, none⟩ = false ∧ w.frozen? ⟨g, 3, none⟩ = false ∧ w.frozen? ⟨g, 4, none⟩ = false ∧ w.frozen? ⟨g, 5, none⟩ = false ∧ g < w.heap.size :=
  ⟨boxedCell h 0, boxedCell h 1, boxedCell h 2, boxedCell h 3, boxedCell h 4, boxedCell h 5, boxedFree h 0, boxedFree h 1, boxedFree h 2, boxedFree h 3, boxedFree h 4, boxedFree h 5, h.lt⟩
theorem blkg8 {w : World} {g : Nat} {t : TypeId} {a b c d e f i j : Value} (h : Blk w g t #[a, b, c, d, e, f, i, j]) :
    w.cell? ⟨g, 0, none⟩ = some a ∧ w.cell? ⟨g, 1, none⟩ = some b ∧ w.cell? ⟨g, 2, none⟩ = some c ∧ w.cell? ⟨g, 3, none⟩ = some d ∧ w.cell? ⟨g, 4, none⟩ = some e ∧ w.cell? ⟨g, 5, none⟩ = some f ∧ w.cell? ⟨g, 6, none⟩ = some i ∧ w.cell? ⟨g, 7, none⟩ = some j ∧ w.frozen? ⟨g, 0, none⟩ = false ∧ w.frozen? ⟨g, 1, none⟩ = false ∧ w.frozen? ⟨g, 2, none⟩ = false ∧ w.frozen? ⟨g, 3, none⟩ = false ∧ w.frozen? ⟨g, 4, none⟩ = false ∧ w.frozen? ⟨g, 5, none⟩ = false ∧ w.frozen? ⟨g, 6, none⟩ = false ∧ w.frozen? ⟨g, 7, none⟩ = false ∧ g < w.heap.size :=
  ⟨boxedCell h 0, boxedCell h 1, boxedCell h 2, boxedCell h 3, boxedCell h 4, boxedCell h 5, boxedCell h 6, boxedCell h 7, boxedFree h 0, boxedFree h 1, boxedFree h 2, boxedFree h 3, boxedFree h 4, boxedFree h 5, boxedFree h 6, boxedFree h 7, h.lt⟩

set_option maxRecDepth 100000 in
set_option maxHeartbeats 6400000 in
theorem cloned_c (S U H : ByteArray) (n : Int) (u1 u2 : Value) (F G : List Prm) (w : World) (h1 : RPrms w u1 F) (h2 : RPrms w u2 G) (l1 : F.length ≤ 1099511627776) (l2 : G.length ≤ 1099511627776) :
    Calls Tryz.prog 34 #[.agg #[.string S, .string U, .string H, .int .i64 n, u1, u2]] w fun e w' => ∃ v1 v2, e = .returned (.agg #[.string S, .string U, .string H, .int .i64 n, v1, v2]) ∧ RPrms w' v1 F ∧ RPrms w' v2 G ∧ Fresh w.heap.size v1 ∧ Fresh w.heap.size v2 ∧ Below w.heap.size w w' := by
  have HU1 := Lib.hid h1
  have HU2 := Lib.hid h2
  obtain ⟨ao, ac, rfl, _, _⟩ := h1.form
  obtain ⟨bo, bc, rfl, _, _⟩ := h2.form
  have HC1 := Lib.hid (fun wx hx => cloneP_c (.slice ao F.length ac) F wx hx l1)
  have HC2 := Lib.hid (fun wx hx => cloneP_c (.slice bo G.length bc) G wx hx l2)
  clear h1 h2
  have hZ0 : Below w.heap.size w ((w.alloc (.cells #[.string S, .string U, .string H, .int .i64 n, .slice ao F.length ac, .slice bo G.length bc] 24)).alloc (.cells #[.string ⟨#[]⟩, .string ⟨#[]⟩, .string ⟨#[]⟩, .int .i64 0, .slice none 0 0, .slice none 0 0] 24)) := ((Below.refl _ _).alloc (Nat.le_refl _) _).alloc (by rw [World.size_alloc]; omega) _
  have bmR0 : Blk ((w.alloc (.cells #[.string S, .string U, .string H, .int .i64 n, .slice ao F.length ac, .slice bo G.length bc] 24)).alloc (.cells #[.string ⟨#[]⟩, .string ⟨#[]⟩, .string ⟨#[]⟩, .int .i64 0, .slice none 0 0, .slice none 0 0] 24)) w.heap.size 24 #[.string S, .string U, .string H, .int .i64 n, .slice ao F.length ac, .slice bo G.length bc] := (Blk.new w 24 #[.string S, .string U, .string H, .int .i64 n, .slice ao F.length ac, .slice bo G.length bc]).alloc _
  have bmU0 : Blk ((w.alloc (.cells #[.string S, .string U, .string H, .int .i64 n, .slice ao F.length ac, .slice bo G.length bc] 24)).alloc (.cells #[.string ⟨#[]⟩, .string ⟨#[]⟩, .string ⟨#[]⟩, .int .i64 0, .slice none 0 0, .slice none 0 0] 24)) (w.heap.size + 1) 24 #[.string ⟨#[]⟩, .string ⟨#[]⟩, .string ⟨#[]⟩, .int .i64 0, .slice none 0 0, .slice none 0 0] := by
    have := Blk.new (w.alloc (.cells #[.string S, .string U, .string H, .int .i64 n, .slice ao F.length ac, .slice bo G.length bc] 24)) 24 #[.string ⟨#[]⟩, .string ⟨#[]⟩, .string ⟨#[]⟩, .int .i64 0, .slice none 0 0, .slice none 0 0]
    rwa [World.size_alloc] at this
  have hs2 : ((w.alloc (.cells #[.string S, .string U, .string H, .int .i64 n, .slice ao F.length ac, .slice bo G.length bc] 24)).alloc (.cells #[.string ⟨#[]⟩, .string ⟨#[]⟩, .string ⟨#[]⟩, .int .i64 0, .slice none 0 0, .slice none 0 0] 24)).heap.size = w.heap.size + 2 := by rw [World.size_alloc, World.size_alloc]
  obtain ⟨w0, hw0⟩ : ∃ w0, w0 = ((w.alloc (.cells #[.string S, .string U, .string H, .int .i64 n, .slice ao F.length ac, .slice bo G.length bc] 24)).alloc (.cells #[.string ⟨#[]⟩, .string ⟨#[]⟩, .string ⟨#[]⟩, .int .i64 0, .slice none 0 0, .slice none 0 0] 24)) := ⟨_, rfl⟩
  rw [← hw0] at hZ0 bmR0 bmU0 hs2
  have HX := Lib.hid (fun (wx : World) (h : Below w0.heap.size w0 wx) => (show Blk wx w.heap.size 24 #[.string S, .string U, .string H, .int .i64 n, .slice ao F.length ac, .slice bo G.length bc] ∧ Blk wx (w.heap.size + 1) 24 #[.string ⟨#[]⟩, .string ⟨#[]⟩, .string ⟨#[]⟩, .int .i64 0, .slice none 0 0, .slice none 0 0] ∧ Below w.heap.size w wx ∧ RPrms wx (.slice ao F.length ac) F ∧ RPrms wx (.slice bo G.length bc) G from by
    have hx := hZ0.trans (h.mono hZ0.size)
    exact ⟨bmR0.call h, bmU0.call h, hx, HU1.out.below hx (Nat.le_refl _), HU2.out.below hx (Nat.le_refl _)⟩))
  have HW0 := Lib.hid hw0
  have HS2 := Lib.hid hs2
  have hZ : Below w0.heap.size w0 w0.drew := (Below.refl _ _).drew
  obtain ⟨bmR, bmU, hBB, hU1, hU2⟩ := HX.out _ hZ
  obtain ⟨p0, p1, p2, p3, p4, p5, q0, q1, q2, q3, q4, q5, zR⟩ := blkg6 bmR
  obtain ⟨m0, m1, m2, m3, m4, m5, f0, f1, f2, f3, f4, f5, zU⟩ := blkg6 bmU
  clear hw0 hZ0 bmR0 bmU0 hs2 HU1 HU2
  go_enter Tryz.func34, Tryz.ntmps34
  go_upto_region 1 with fail
  rw [← HW0.out]
  go_region_with (first | (go_at_call 79; first | ((with_reducible refine (HC1.out _ hU1).mono ?_); rintro e wa ⟨v1, rfl, hP1, hC1⟩; have hF1 := hP1.fresh.mono (show w.heap.size + 2 ≤ _ from HS2.out ▸ hZ.size); obtain ⟨a1, d1, rfl, _, _⟩ := hP1.read.form; have R1 := hP1.read; have hZ := hZ.trans (hC1.mono hZ.size); clear hP1; obtain ⟨bmR, bmU, hBB, hU1, hU2⟩ := HX.out _ hZ; obtain ⟨p0, p1, p2, p3, p4, p5, q0, q1, q2, q3, q4, q5, zR⟩ := blkg6 bmR; obtain ⟨m0, m1, m2, m3, m4, m5, f0, f1, f2, f3, f4, f5, zU⟩ := blkg6 bmU) | ((with_reducible refine (HC2.out _ hU2).mono ?_); rintro e wb ⟨v2, rfl, hP2, hC2⟩; have hF2 := hP2.fresh.mono (show w.heap.size + 2 ≤ _ from HS2.out ▸ hZ.size); obtain ⟨a2, d2, rfl, _, _⟩ := hP2.read.form; have R2 := hP2.read; have R1 := R1.below hC2 (Nat.le_refl _); have hZ := hZ.trans (hC2.mono hZ.size); clear hP2; obtain ⟨bmR, bmU, hBB, hU1, hU2⟩ := HX.out _ hZ; obtain ⟨p0, p1, p2, p3, p4, p5, q0, q1, q2, q3, q4, q5, zR⟩ := blkg6 bmR; obtain ⟨m0, m1, m2, m3, m4, m5, f0, f1, f2, f3, f4, f5, zU⟩ := blkg6 bmU)))
  all_goals
    go_wp2
    refine bodyPost_ret (v := .agg #[.string S, .string U, .string H, .int .i64 n, .slice a1 F.length d1, .slice a2 G.length d2]) (by simp [results, Tryz.results34, go_sem, m0, m1, m2, m3, m4, m5]) rfl ?_
    exact ⟨_, _, rfl, (RPrms.set (RPrms.set (RPrms.set (RPrms.set (RPrms.set (RPrms.set (RPrms.set (RPrms.set R1 hF1 (p := ⟨w.heap.size, 4, none⟩) (show w.heap.size < w.heap.size + 2 by omega) _) hF1 (p := ⟨w.heap.size, 5, none⟩) (show w.heap.size < w.heap.size + 2 by omega) _) hF1 (p := ⟨w.heap.size + 1, 0, none⟩) (show w.heap.size + 1 < w.heap.size + 2 by omega) _) hF1 (p := ⟨w.heap.size + 1, 1, none⟩) (show w.heap.size + 1 < w.heap.size + 2 by omega) _) hF1 (p := ⟨w.heap.size + 1, 2, none⟩) (show w.heap.size + 1 < w.heap.size + 2 by omega) _) hF1 (p := ⟨w.heap.size + 1, 3, none⟩) (show w.heap.size + 1 < w.heap.size + 2 by omega) _) hF1 (p := ⟨w.heap.size + 1, 4, none⟩) (show w.heap.size + 1 < w.heap.size + 2 by omega) _) hF1 (p := ⟨w.heap.size + 1, 5, none⟩) (show w.heap.size + 1 < w.heap.size + 2 by omega) _), (RPrms.set (RPrms.set (RPrms.set (RPrms.set (RPrms.set (RPrms.set (RPrms.set (RPrms.set R2 hF2 (p := ⟨w.heap.size, 4, none⟩) (show w.heap.size < w.heap.size + 2 by omega) _) hF2 (p := ⟨w.heap.size, 5, none⟩) (show w.heap.size < w.heap.size + 2 by omega) _) hF2 (p := ⟨w.heap.size + 1, 0, none⟩) (show w.heap.size + 1 < w.heap.size + 2 by omega) _) hF2 (p := ⟨w.heap.size + 1, 1, none⟩) (show w.heap.size + 1 < w.heap.size + 2 by omega) _) hF2 (p := ⟨w.heap.size + 1, 2, none⟩) (show w.heap.size + 1 < w.heap.size + 2 by omega) _) hF2 (p := ⟨w.heap.size + 1, 3, none⟩) (show w.heap.size + 1 < w.heap.size + 2 by omega) _) hF2 (p := ⟨w.heap.size + 1, 4, none⟩) (show w.heap.size + 1 < w.heap.size + 2 by omega) _) hF2 (p := ⟨w.heap.size + 1, 5, none⟩) (show w.heap.size + 1 < w.heap.size + 2 by omega) _), hF1.mono (by omega), hF2.mono (by omega), ((((((((hBB.setCell (Nat.le_refl _) _).setCell (Nat.le_refl _) _).setCell (Nat.le_succ _) _).setCell (Nat.le_succ _) _).setCell (Nat.le_succ _) _).setCell (Nat.le_succ _) _).setCell (Nat.le_succ _) _).setCell (Nat.le_succ _) _)⟩

set_option maxRecDepth 100000 in
set_option maxHeartbeats 6400000 in
theorem own_c (D S U H : ByteArray) (n : Int) (u1 u2 u3 : Value) (F G P : List Prm) (w : World) (h1 : RPrms w u1 F) (h2 : RPrms w u2 G) (h3 : RPrms w u3 P) (l1 : F.length ≤ 1099511627776) (l2 : G.length ≤ 1099511627776) (l3 : P.length ≤ 1099511627776) :
    Calls Tryz.prog 33 #[.agg #[.string D, .string S, .string U, .string H, .int .i64 n, u1, u2, u3]] w fun e w' => ∃ v1 v2 v3, e = .returned (.agg #[.string D, .string S, .string U, .string H, .int .i64 n, v1, v2, v3]) ∧ RPrms w' v1 F ∧ RPrms w' v2 G ∧ RPrms w' v3 P ∧ Fresh w.heap.size v1 ∧ Fresh w.heap.size v2 ∧ Fresh w.heap.size v3 ∧ Below w.heap.size w w' := by
  have HU1 := Lib.hid h1
  have HU2 := Lib.hid h2
  have HU3 := Lib.hid h3
  obtain ⟨ao, ac, rfl, _, _⟩ := h1.form
  obtain ⟨bo, bc, rfl, _, _⟩ := h2.form
  obtain ⟨co, cc, rfl, _, _⟩ := h3.form
  have HCL := Lib.hid (fun wx hx hy => cloned_c S U H n (.slice ao F.length ac) (.slice bo G.length bc) F G wx hx hy l1 l2)
  have HC3 := Lib.hid (fun wx hx => cloneP_c (.slice co P.length cc) P wx hx l3)
  have HU3X := Lib.hid h3
  clear h1 h2 h3
  have hZ0 : Below w.heap.size w ((w.alloc (.cells #[.string D, .string S, .string U, .string H, .int .i64 n, .slice ao F.length ac, .slice bo G.length bc, .slice co P.length cc] 26)).alloc (.cells #[.string ⟨#[]⟩, .string ⟨#[]⟩, .string ⟨#[]⟩, .string ⟨#[]⟩, .int .i64 0, .slice none 0 0, .slice none 0 0, .slice none 0 0] 26)) := ((Below.refl _ _).alloc (Nat.le_refl _) _).alloc (by rw [World.size_alloc]; omega) _
  have bmR0 : Blk ((w.alloc (.cells #[.string D, .string S, .string U, .string H, .int .i64 n, .slice ao F.length ac, .slice bo G.length bc, .slice co P.length cc] 26)).alloc (.cells #[.string ⟨#[]⟩, .string ⟨#[]⟩, .string ⟨#[]⟩, .string ⟨#[]⟩, .int .i64 0, .slice none 0 0, .slice none 0 0, .slice none 0 0] 26)) w.heap.size 26 #[.string D, .string S, .string U, .string H, .int .i64 n, .slice ao F.length ac, .slice bo G.length bc, .slice co P.length cc] := (Blk.new w 26 #[.string D, .string S, .string U, .string H, .int .i64 n, .slice ao F.length ac, .slice bo G.length bc, .slice co P.length cc]).alloc _
  have bmU0 : Blk ((w.alloc (.cells #[.string D, .string S, .string U, .string H, .int .i64 n, .slice ao F.length ac, .slice bo G.length bc, .slice co P.length cc] 26)).alloc (.cells #[.string ⟨#[]⟩, .string ⟨#[]⟩, .string ⟨#[]⟩, .string ⟨#[]⟩, .int .i64 0, .slice none 0 0, .slice none 0 0, .slice none 0 0] 26)) (w.heap.size + 1) 26 #[.string ⟨#[]⟩, .string ⟨#[]⟩, .string ⟨#[]⟩, .string ⟨#[]⟩, .int .i64 0, .slice none 0 0, .slice none 0 0, .slice none 0 0] := by
    have := Blk.new (w.alloc (.cells #[.string D, .string S, .string U, .string H, .int .i64 n, .slice ao F.length ac, .slice bo G.length bc, .slice co P.length cc] 26)) 26 #[.string ⟨#[]⟩, .string ⟨#[]⟩, .string ⟨#[]⟩, .string ⟨#[]⟩, .int .i64 0, .slice none 0 0, .slice none 0 0, .slice none 0 0]
    rwa [World.size_alloc] at this
  have hs2 : ((w.alloc (.cells #[.string D, .string S, .string U, .string H, .int .i64 n, .slice ao F.length ac, .slice bo G.length bc, .slice co P.length cc] 26)).alloc (.cells #[.string ⟨#[]⟩, .string ⟨#[]⟩, .string ⟨#[]⟩, .string ⟨#[]⟩, .int .i64 0, .slice none 0 0, .slice none 0 0, .slice none 0 0] 26)).heap.size = w.heap.size + 2 := by rw [World.size_alloc, World.size_alloc]
  obtain ⟨w0, hw0⟩ : ∃ w0, w0 = ((w.alloc (.cells #[.string D, .string S, .string U, .string H, .int .i64 n, .slice ao F.length ac, .slice bo G.length bc, .slice co P.length cc] 26)).alloc (.cells #[.string ⟨#[]⟩, .string ⟨#[]⟩, .string ⟨#[]⟩, .string ⟨#[]⟩, .int .i64 0, .slice none 0 0, .slice none 0 0, .slice none 0 0] 26)) := ⟨_, rfl⟩
  rw [← hw0] at hZ0 bmR0 bmU0 hs2
  have HX := Lib.hid (fun (wx : World) (h : Below w0.heap.size w0 wx) => (show Blk wx w.heap.size 26 #[.string D, .string S, .string U, .string H, .int .i64 n, .slice ao F.length ac, .slice bo G.length bc, .slice co P.length cc] ∧ Blk wx (w.heap.size + 1) 26 #[.string ⟨#[]⟩, .string ⟨#[]⟩, .string ⟨#[]⟩, .string ⟨#[]⟩, .int .i64 0, .slice none 0 0, .slice none 0 0, .slice none 0 0] ∧ Below w.heap.size w wx ∧ RPrms wx (.slice ao F.length ac) F ∧ RPrms wx (.slice bo G.length bc) G ∧ RPrms wx (.slice co P.length cc) P from by
    have hx := hZ0.trans (h.mono hZ0.size)
    exact ⟨bmR0.call h, bmU0.call h, hx, HU1.out.below hx (Nat.le_refl _), HU2.out.below hx (Nat.le_refl _), HU3.out.below hx (Nat.le_refl _)⟩))
  have HW0 := Lib.hid hw0
  have HS2 := Lib.hid hs2
  have hZ : Below w0.heap.size w0 w0.drew := (Below.refl _ _).drew
  obtain ⟨bmR, bmU, hBB, hU1, hU2, hU3⟩ := HX.out _ hZ
  obtain ⟨p0, p1, p2, p3, p4, p5, p6, p7, q0, q1, q2, q3, q4, q5, q6, q7, zR⟩ := blkg8 bmR
  obtain ⟨m0, m1, m2, m3, m4, m5, m6, m7, f0, f1, f2, f3, f4, f5, f6, f7, zU⟩ := blkg8 bmU
  clear hw0 hZ0 bmR0 bmU0 hs2 HU1 HU2 HU3
  go_enter Tryz.func33, Tryz.ntmps33
  go_upto_region 1 with fail
  rw [← HW0.out]
  go_region_with (first | (go_at_call 34; (with_reducible refine (HCL.out _ hU1 hU2).mono ?_); rintro e wa ⟨v1, v2, rfl, R1, R2, hF1, hF2, hC1⟩; have hF1 := hF1.mono (show w.heap.size + 2 ≤ _ from HS2.out ▸ hZ.size); have hF2 := hF2.mono (show w.heap.size + 2 ≤ _ from HS2.out ▸ hZ.size); obtain ⟨a1, d1, rfl, _, _⟩ := R1.form; obtain ⟨a2, d2, rfl, _, _⟩ := R2.form; have hZ := hZ.trans (hC1.mono hZ.size); obtain ⟨bmR, bmU, hBB, hU1, hU2, hU3⟩ := HX.out _ hZ; obtain ⟨p0, p1, p2, p3, p4, p5, p6, p7, q0, q1, q2, q3, q4, q5, q6, q7, zR⟩ := blkg8 bmR; obtain ⟨m0, m1, m2, m3, m4, m5, m6, m7, f0, f1, f2, f3, f4, f5, f6, f7, zU⟩ := blkg8 bmU) | (go_at_call 79; (with_reducible refine (HC3.out _ hU3).mono ?_); rintro e wb ⟨v3, rfl, hP3, hC3⟩; have hF3 := hP3.fresh.mono (show w.heap.size + 2 ≤ _ from HS2.out ▸ hZ.size); obtain ⟨a3, d3, rfl, _, _⟩ := hP3.read.form; have R3 := hP3.read; have R1 := R1.below hC3 (Nat.le_refl _); have R2 := R2.below hC3 (Nat.le_refl _); have hZ := hZ.trans (hC3.mono hZ.size); clear hP3; obtain ⟨bmR, bmU, hBB, hU1, hU2, hU3⟩ := HX.out _ hZ; obtain ⟨p0, p1, p2, p3, p4, p5, p6, p7, q0, q1, q2, q3, q4, q5, q6, q7, zR⟩ := blkg8 bmR; obtain ⟨m0, m1, m2, m3, m4, m5, m6, m7, f0, f1, f2, f3, f4, f5, f6, f7, zU⟩ := blkg8 bmU))
  all_goals
    go_wp2
    refine bodyPost_ret (v := .agg #[.string D, .string S, .string U, .string H, .int .i64 n, .slice a1 F.length d1, .slice a2 G.length d2, .slice a3 P.length d3]) (by simp [results, Tryz.results33, go_sem, m0, m1, m2, m3, m4, m5, m6, m7]) rfl ?_
    exact ⟨_, _, _, rfl, (RPrms.set (RPrms.set (RPrms.set (RPrms.set (RPrms.set (RPrms.set (RPrms.set (RPrms.set (RPrms.set (RPrms.set (RPrms.set (RPrms.set (RPrms.set (RPrms.set (RPrms.set R1 hF1 (p := ⟨w.heap.size, 1, none⟩) (show w.heap.size < w.heap.size + 2 by omega) _) hF1 (p := ⟨w.heap.size, 2, none⟩) (show w.heap.size < w.heap.size + 2 by omega) _) hF1 (p := ⟨w.heap.size, 3, none⟩) (show w.heap.size < w.heap.size + 2 by omega) _) hF1 (p := ⟨w.heap.size, 4, none⟩) (show w.heap.size < w.heap.size + 2 by omega) _) hF1 (p := ⟨w.heap.size, 5, none⟩) (show w.heap.size < w.heap.size + 2 by omega) _) hF1 (p := ⟨w.heap.size, 6, none⟩) (show w.heap.size < w.heap.size + 2 by omega) _) hF1 (p := ⟨w.heap.size, 7, none⟩) (show w.heap.size < w.heap.size + 2 by omega) _) hF1 (p := ⟨w.heap.size + 1, 0, none⟩) (show w.heap.size + 1 < w.heap.size + 2 by omega) _) hF1 (p := ⟨w.heap.size + 1, 1, none⟩) (show w.heap.size + 1 < w.heap.size + 2 by omega) _) hF1 (p := ⟨w.heap.size + 1, 2, none⟩) (show w.heap.size + 1 < w.heap.size + 2 by omega) _) hF1 (p := ⟨w.heap.size + 1, 3, none⟩) (show w.heap.size + 1 < w.heap.size + 2 by omega) _) hF1 (p := ⟨w.heap.size + 1, 4, none⟩) (show w.heap.size + 1 < w.heap.size + 2 by omega) _) hF1 (p := ⟨w.heap.size + 1, 5, none⟩) (show w.heap.size + 1 < w.heap.size + 2 by omega) _) hF1 (p := ⟨w.heap.size + 1, 6, none⟩) (show w.heap.size + 1 < w.heap.size + 2 by omega) _) hF1 (p := ⟨w.heap.size + 1, 7, none⟩) (show w.heap.size + 1 < w.heap.size + 2 by omega) _), (RPrms.set (RPrms.set (RPrms.set (RPrms.set (RPrms.set (RPrms.set (RPrms.set (RPrms.set (RPrms.set (RPrms.set (RPrms.set (RPrms.set (RPrms.set (RPrms.set (RPrms.set R2 hF2 (p := ⟨w.heap.size, 1, none⟩) (show w.heap.size < w.heap.size + 2 by omega) _) hF2 (p := ⟨w.heap.size, 2, none⟩) (show w.heap.size < w.heap.size + 2 by omega) _) hF2 (p := ⟨w.heap.size, 3, none⟩) (show w.heap.size < w.heap.size + 2 by omega) _) hF2 (p := ⟨w.heap.size, 4, none⟩) (show w.heap.size < w.heap.size + 2 by omega) _) hF2 (p := ⟨w.heap.size, 5, none⟩) (show w.heap.size < w.heap.size + 2 by omega) _) hF2 (p := ⟨w.heap.size, 6, none⟩) (show w.heap.size < w.heap.size + 2 by omega) _) hF2 (p := ⟨w.heap.size, 7, none⟩) (show w.heap.size < w.heap.size + 2 by omega) _) hF2 (p := ⟨w.heap.size + 1, 0, none⟩) (show w.heap.size + 1 < w.heap.size + 2 by omega) _) hF2 (p := ⟨w.heap.size + 1, 1, none⟩) (show w.heap.size + 1 < w.heap.size + 2 by omega) _) hF2 (p := ⟨w.heap.size + 1, 2, none⟩) (show w.heap.size + 1 < w.heap.size + 2 by omega) _) hF2 (p := ⟨w.heap.size + 1, 3, none⟩) (show w.heap.size + 1 < w.heap.size + 2 by omega) _) hF2 (p := ⟨w.heap.size + 1, 4, none⟩) (show w.heap.size + 1 < w.heap.size + 2 by omega) _) hF2 (p := ⟨w.heap.size + 1, 5, none⟩) (show w.heap.size + 1 < w.heap.size + 2 by omega) _) hF2 (p := ⟨w.heap.size + 1, 6, none⟩) (show w.heap.size + 1 < w.heap.size + 2 by omega) _) hF2 (p := ⟨w.heap.size + 1, 7, none⟩) (show w.heap.size + 1 < w.heap.size + 2 by omega) _), (RPrms.set (RPrms.set (RPrms.set (RPrms.set (RPrms.set (RPrms.set (RPrms.set (RPrms.set (RPrms.set (RPrms.set (RPrms.set (RPrms.set (RPrms.set (RPrms.set (RPrms.set R3 hF3 (p := ⟨w.heap.size, 1, none⟩) (show w.heap.size < w.heap.size + 2 by omega) _) hF3 (p := ⟨w.heap.size, 2, none⟩) (show w.heap.size < w.heap.size + 2 by omega) _) hF3 (p := ⟨w.heap.size, 3, none⟩) (show w.heap.size < w.heap.size + 2 by omega) _) hF3 (p := ⟨w.heap.size, 4, none⟩) (show w.heap.size < w.heap.size + 2 by omega) _) hF3 (p := ⟨w.heap.size, 5, none⟩) (show w.heap.size < w.heap.size + 2 by omega) _) hF3 (p := ⟨w.heap.size, 6, none⟩) (show w.heap.size < w.heap.size + 2 by omega) _) hF3 (p := ⟨w.heap.size, 7, none⟩) (show w.heap.size < w.heap.size + 2 by omega) _) hF3 (p := ⟨w.heap.size + 1, 0, none⟩) (show w.heap.size + 1 < w.heap.size + 2 by omega) _) hF3 (p := ⟨w.heap.size + 1, 1, none⟩) (show w.heap.size + 1 < w.heap.size + 2 by omega) _) hF3 (p := ⟨w.heap.size + 1, 2, none⟩) (show w.heap.size + 1 < w.heap.size + 2 by omega) _) hF3 (p := ⟨w.heap.size + 1, 3, none⟩) (show w.heap.size + 1 < w.heap.size + 2 by omega) _) hF3 (p := ⟨w.heap.size + 1, 4, none⟩) (show w.heap.size + 1 < w.heap.size + 2 by omega) _) hF3 (p := ⟨w.heap.size + 1, 5, none⟩) (show w.heap.size + 1 < w.heap.size + 2 by omega) _) hF3 (p := ⟨w.heap.size + 1, 6, none⟩) (show w.heap.size + 1 < w.heap.size + 2 by omega) _) hF3 (p := ⟨w.heap.size + 1, 7, none⟩) (show w.heap.size + 1 < w.heap.size + 2 by omega) _), hF1.mono (by omega), hF2.mono (by omega), hF3.mono (by omega), (((((((((((((((hBB.setCell (Nat.le_refl _) _).setCell (Nat.le_refl _) _).setCell (Nat.le_refl _) _).setCell (Nat.le_refl _) _).setCell (Nat.le_refl _) _).setCell (Nat.le_refl _) _).setCell (Nat.le_refl _) _).setCell (Nat.le_succ _) _).setCell (Nat.le_succ _) _).setCell (Nat.le_succ _) _).setCell (Nat.le_succ _) _).setCell (Nat.le_succ _) _).setCell (Nat.le_succ _) _).setCell (Nat.le_succ _) _).setCell (Nat.le_succ _) _)⟩

set_option maxRecDepth 100000 in
set_option maxHeartbeats 6400000 in
theorem tagged_c (D S U H : ByteArray) (n : Int) (u1 u2 u3 : Value) (F G P : List Prm) (T : ByteArray) (w : World) (h1 : RPrms w u1 F) (h2 : RPrms w u2 G) (h3 : RPrms w u3 P) (l1 : F.length ≤ 1099511627776) (l2 : G.length ≤ 1099511627776) (l3 : P.length ≤ 1099511627776) :
    Calls Tryz.prog 32 #[.agg #[.string D, .string S, .string U, .string H, .int .i64 n, u1, u2, u3], .string T] w fun e w' => ∃ v1 v2 v3, e = .returned (.agg #[.string D, .string S, .string U, .string H, .int .i64 n, v1, v2, v3]) ∧ RPrms w' v1 F ∧ RPrms w' v2 G ∧ RPrms w' v3 (P ++ [⟨nTag, us T, true⟩]) ∧ Fresh w.heap.size v1 ∧ Fresh w.heap.size v2 ∧ Fresh w.heap.size v3 ∧ Below w.heap.size w w' := by
  have HU1 := Lib.hid h1
  have HU2 := Lib.hid h2
  have HU3 := Lib.hid h3
  obtain ⟨ao, ac, rfl, _, _⟩ := h1.form
  obtain ⟨bo, bc, rfl, _, _⟩ := h2.form
  obtain ⟨co, cc, rfl, _, _⟩ := h3.form
  have HCL := Lib.hid (fun wx hx hy => cloned_c S U H n (.slice ao F.length ac) (.slice bo G.length bc) F G wx hx hy l1 l2)
  have HC3 := Lib.hid (fun wx hx => cloneP_c (.slice co P.length cc) P wx hx l3)
  have HU3X := Lib.hid h3
  clear h1 h2 h3
  have hZ0 : Below w.heap.size w ((w.alloc (.cells #[.string D, .string S, .string U, .string H, .int .i64 n, .slice ao F.length ac, .slice bo G.length bc, .slice co P.length cc] 26)).alloc (.cells #[.string ⟨#[]⟩, .string ⟨#[]⟩, .string ⟨#[]⟩, .string ⟨#[]⟩, .int .i64 0, .slice none 0 0, .slice none 0 0, .slice none 0 0] 26)) := ((Below.refl _ _).alloc (Nat.le_refl _) _).alloc (by rw [World.size_alloc]; omega) _
  have bmR0 : Blk ((w.alloc (.cells #[.string D, .string S, .string U, .string H, .int .i64 n, .slice ao F.length ac, .slice bo G.length bc, .slice co P.length cc] 26)).alloc (.cells #[.string ⟨#[]⟩, .string ⟨#[]⟩, .string ⟨#[]⟩, .string ⟨#[]⟩, .int .i64 0, .slice none 0 0, .slice none 0 0, .slice none 0 0] 26)) w.heap.size 26 #[.string D, .string S, .string U, .string H, .int .i64 n, .slice ao F.length ac, .slice bo G.length bc, .slice co P.length cc] := (Blk.new w 26 #[.string D, .string S, .string U, .string H, .int .i64 n, .slice ao F.length ac, .slice bo G.length bc, .slice co P.length cc]).alloc _
  have bmU0 : Blk ((w.alloc (.cells #[.string D, .string S, .string U, .string H, .int .i64 n, .slice ao F.length ac, .slice bo G.length bc, .slice co P.length cc] 26)).alloc (.cells #[.string ⟨#[]⟩, .string ⟨#[]⟩, .string ⟨#[]⟩, .string ⟨#[]⟩, .int .i64 0, .slice none 0 0, .slice none 0 0, .slice none 0 0] 26)) (w.heap.size + 1) 26 #[.string ⟨#[]⟩, .string ⟨#[]⟩, .string ⟨#[]⟩, .string ⟨#[]⟩, .int .i64 0, .slice none 0 0, .slice none 0 0, .slice none 0 0] := by
    have := Blk.new (w.alloc (.cells #[.string D, .string S, .string U, .string H, .int .i64 n, .slice ao F.length ac, .slice bo G.length bc, .slice co P.length cc] 26)) 26 #[.string ⟨#[]⟩, .string ⟨#[]⟩, .string ⟨#[]⟩, .string ⟨#[]⟩, .int .i64 0, .slice none 0 0, .slice none 0 0, .slice none 0 0]
    rwa [World.size_alloc] at this
  have hs2 : ((w.alloc (.cells #[.string D, .string S, .string U, .string H, .int .i64 n, .slice ao F.length ac, .slice bo G.length bc, .slice co P.length cc] 26)).alloc (.cells #[.string ⟨#[]⟩, .string ⟨#[]⟩, .string ⟨#[]⟩, .string ⟨#[]⟩, .int .i64 0, .slice none 0 0, .slice none 0 0, .slice none 0 0] 26)).heap.size = w.heap.size + 2 := by rw [World.size_alloc, World.size_alloc]
  obtain ⟨w0, hw0⟩ : ∃ w0, w0 = ((w.alloc (.cells #[.string D, .string S, .string U, .string H, .int .i64 n, .slice ao F.length ac, .slice bo G.length bc, .slice co P.length cc] 26)).alloc (.cells #[.string ⟨#[]⟩, .string ⟨#[]⟩, .string ⟨#[]⟩, .string ⟨#[]⟩, .int .i64 0, .slice none 0 0, .slice none 0 0, .slice none 0 0] 26)) := ⟨_, rfl⟩
  rw [← hw0] at hZ0 bmR0 bmU0 hs2
  have HX := Lib.hid (fun (wx : World) (h : Below w0.heap.size w0 wx) => (show Blk wx w.heap.size 26 #[.string D, .string S, .string U, .string H, .int .i64 n, .slice ao F.length ac, .slice bo G.length bc, .slice co P.length cc] ∧ Blk wx (w.heap.size + 1) 26 #[.string ⟨#[]⟩, .string ⟨#[]⟩, .string ⟨#[]⟩, .string ⟨#[]⟩, .int .i64 0, .slice none 0 0, .slice none 0 0, .slice none 0 0] ∧ Below w.heap.size w wx ∧ RPrms wx (.slice ao F.length ac) F ∧ RPrms wx (.slice bo G.length bc) G ∧ RPrms wx (.slice co P.length cc) P from by
    have hx := hZ0.trans (h.mono hZ0.size)
    exact ⟨bmR0.call h, bmU0.call h, hx, HU1.out.below hx (Nat.le_refl _), HU2.out.below hx (Nat.le_refl _), HU3.out.below hx (Nat.le_refl _)⟩))
  have HW0 := Lib.hid hw0
  have HS2 := Lib.hid hs2
  have hZ : Below w0.heap.size w0 w0 := Below.refl _ _
  obtain ⟨bmR, bmU, hBB, hU1, hU2, hU3⟩ := HX.out _ hZ
  obtain ⟨p0, p1, p2, p3, p4, p5, p6, p7, q0, q1, q2, q3, q4, q5, q6, q7, zR⟩ := blkg8 bmR
  obtain ⟨m0, m1, m2, m3, m4, m5, m6, m7, f0, f1, f2, f3, f4, f5, f6, f7, zU⟩ := blkg8 bmU
  clear hw0 hZ0 bmR0 bmU0 hs2 HU1 HU2 HU3
  go_enter Tryz.func32, Tryz.ntmps32
  go_upto_region 2 with (go_at_call 34; rw [← HW0.out]; (refine (HCL.out _ hU1 hU2).mono ?_); rintro e wa ⟨v1, v2, rfl, R1, R2, hF1, hF2, hC1⟩; have hF1 := hF1.mono (show w.heap.size + 2 ≤ _ from HS2.out ▸ hZ.size); have hF2 := hF2.mono (show w.heap.size + 2 ≤ _ from HS2.out ▸ hZ.size); obtain ⟨a1, d1, rfl, _, _⟩ := R1.form; obtain ⟨a2, d2, rfl, _, _⟩ := R2.form; have hZ := hZ.trans (hC1.mono hZ.size); obtain ⟨bmR, bmU, hBB, hU1, hU2, hU3⟩ := HX.out _ hZ; obtain ⟨p0, p1, p2, p3, p4, p5, p6, p7, q0, q1, q2, q3, q4, q5, q6, q7, zR⟩ := blkg8 bmR; obtain ⟨m0, m1, m2, m3, m4, m5, m6, m7, f0, f1, f2, f3, f4, f5, f6, f7, zU⟩ := blkg8 bmU)
  replace hBB := hBB.setCell (p := ⟨w.heap.size, 1, none⟩) (Nat.le_refl _) (.string S)
  replace bmR : Blk _ w.heap.size 26 #[(.string D), (.string S), (.string U), (.string H), (.int .i64 n), (.slice ao F.length ac), (.slice bo G.length bc), (.slice co P.length cc)] := bmR.set_ 1 (.string S)
  replace bmU := bmU.far (p := ⟨w.heap.size, 1, none⟩) (show w.heap.size + 1 ≠ w.heap.size by omega) (.string S)
  replace R1 := R1.set hF1 (p := ⟨w.heap.size, 1, none⟩) (show w.heap.size < w.heap.size + 2 by omega) (.string S)
  replace R2 := R2.set hF2 (p := ⟨w.heap.size, 1, none⟩) (show w.heap.size < w.heap.size + 2 by omega) (.string S)
  replace hBB := hBB.setCell (p := ⟨w.heap.size, 2, none⟩) (Nat.le_refl _) (.string U)
  replace bmR : Blk _ w.heap.size 26 #[(.string D), (.string S), (.string U), (.string H), (.int .i64 n), (.slice ao F.length ac), (.slice bo G.length bc), (.slice co P.length cc)] := bmR.set_ 2 (.string U)
  replace bmU := bmU.far (p := ⟨w.heap.size, 2, none⟩) (show w.heap.size + 1 ≠ w.heap.size by omega) (.string U)
  replace R1 := R1.set hF1 (p := ⟨w.heap.size, 2, none⟩) (show w.heap.size < w.heap.size + 2 by omega) (.string U)
  replace R2 := R2.set hF2 (p := ⟨w.heap.size, 2, none⟩) (show w.heap.size < w.heap.size + 2 by omega) (.string U)
  replace hBB := hBB.setCell (p := ⟨w.heap.size, 3, none⟩) (Nat.le_refl _) (.string H)
  replace bmR : Blk _ w.heap.size 26 #[(.string D), (.string S), (.string U), (.string H), (.int .i64 n), (.slice ao F.length ac), (.slice bo G.length bc), (.slice co P.length cc)] := bmR.set_ 3 (.string H)
  replace bmU := bmU.far (p := ⟨w.heap.size, 3, none⟩) (show w.heap.size + 1 ≠ w.heap.size by omega) (.string H)
  replace R1 := R1.set hF1 (p := ⟨w.heap.size, 3, none⟩) (show w.heap.size < w.heap.size + 2 by omega) (.string H)
  replace R2 := R2.set hF2 (p := ⟨w.heap.size, 3, none⟩) (show w.heap.size < w.heap.size + 2 by omega) (.string H)
  replace hBB := hBB.setCell (p := ⟨w.heap.size, 4, none⟩) (Nat.le_refl _) (.int .i64 n)
  replace bmR : Blk _ w.heap.size 26 #[(.string D), (.string S), (.string U), (.string H), (.int .i64 n), (.slice ao F.length ac), (.slice bo G.length bc), (.slice co P.length cc)] := bmR.set_ 4 (.int .i64 n)
  replace bmU := bmU.far (p := ⟨w.heap.size, 4, none⟩) (show w.heap.size + 1 ≠ w.heap.size by omega) (.int .i64 n)
  replace R1 := R1.set hF1 (p := ⟨w.heap.size, 4, none⟩) (show w.heap.size < w.heap.size + 2 by omega) (.int .i64 n)
  replace R2 := R2.set hF2 (p := ⟨w.heap.size, 4, none⟩) (show w.heap.size < w.heap.size + 2 by omega) (.int .i64 n)
  replace hBB := hBB.setCell (p := ⟨w.heap.size, 5, none⟩) (Nat.le_refl _) (.slice a1 F.length d1)
  replace bmR : Blk _ w.heap.size 26 #[(.string D), (.string S), (.string U), (.string H), (.int .i64 n), (.slice a1 F.length d1), (.slice bo G.length bc), (.slice co P.length cc)] := bmR.set_ 5 (.slice a1 F.length d1)
  replace bmU := bmU.far (p := ⟨w.heap.size, 5, none⟩) (show w.heap.size + 1 ≠ w.heap.size by omega) (.slice a1 F.length d1)
  replace R1 := R1.set hF1 (p := ⟨w.heap.size, 5, none⟩) (show w.heap.size < w.heap.size + 2 by omega) (.slice a1 F.length d1)
  replace R2 := R2.set hF2 (p := ⟨w.heap.size, 5, none⟩) (show w.heap.size < w.heap.size + 2 by omega) (.slice a1 F.length d1)
  replace hBB := hBB.setCell (p := ⟨w.heap.size, 6, none⟩) (Nat.le_refl _) (.slice a2 G.length d2)
  replace bmR : Blk _ w.heap.size 26 #[(.string D), (.string S), (.string U), (.string H), (.int .i64 n), (.slice a1 F.length d1), (.slice a2 G.length d2), (.slice co P.length cc)] := bmR.set_ 6 (.slice a2 G.length d2)
  replace bmU := bmU.far (p := ⟨w.heap.size, 6, none⟩) (show w.heap.size + 1 ≠ w.heap.size by omega) (.slice a2 G.length d2)
  replace R1 := R1.set hF1 (p := ⟨w.heap.size, 6, none⟩) (show w.heap.size < w.heap.size + 2 by omega) (.slice a2 G.length d2)
  replace R2 := R2.set hF2 (p := ⟨w.heap.size, 6, none⟩) (show w.heap.size < w.heap.size + 2 by omega) (.slice a2 G.length d2)
  obtain ⟨w2, e2⟩ : ∃ x, x = ((((((wa.setCell ⟨w.heap.size, 1, none⟩ (.string S)).setCell ⟨w.heap.size, 2, none⟩ (.string U)).setCell ⟨w.heap.size, 3, none⟩ (.string H)).setCell ⟨w.heap.size, 4, none⟩ (.int .i64 n)).setCell ⟨w.heap.size, 5, none⟩ (.slice a1 F.length d1)).setCell ⟨w.heap.size, 6, none⟩ (.slice a2 G.length d2)) := ⟨_, rfl⟩
  rw [← e2] at hBB bmR bmU R1 R2
  have hU3 : RPrms w2 (.slice co P.length cc) P := by
    rw [e2]
    have hx : Below w.heap.size w ((((((wa.setCell ⟨w.heap.size, 1, none⟩ (.string S)).setCell ⟨w.heap.size, 2, none⟩ (.string U)).setCell ⟨w.heap.size, 3, none⟩ (.string H)).setCell ⟨w.heap.size, 4, none⟩ (.int .i64 n)).setCell ⟨w.heap.size, 5, none⟩ (.slice a1 F.length d1)).setCell ⟨w.heap.size, 6, none⟩ (.slice a2 G.length d2)) := by rw [← e2]; exact hBB
    exact HU3X.out.below hx (Nat.le_refl _)
  have ZW := Lib.hid (show w.heap.size + 2 ≤ w2.heap.size by have := hZ.size; rw [e2]; simp only [World.size_setCell]; rw [← HS2.out]; exact this)
  simp only [← e2]
  clear e2
  have HBM := Lib.hid bmR
  have HBU := Lib.hid bmU
  have HBBx := Lib.hid hBB
  have HR1 := Lib.hid R1
  have HR2 := Lib.hid R2
  have HY := Lib.hid (fun (wx : World) (h : Below w2.heap.size w2 wx) => (show Blk wx w.heap.size 26 #[.string D, .string S, .string U, .string H, .int .i64 n, .slice a1 F.length d1, .slice a2 G.length d2, .slice co P.length cc] ∧ Blk wx (w.heap.size + 1) 26 #[.string ⟨#[]⟩, .string ⟨#[]⟩, .string ⟨#[]⟩, .string ⟨#[]⟩, .int .i64 0, .slice none 0 0, .slice none 0 0, .slice none 0 0] ∧ Below w.heap.size w wx ∧ RPrms wx (.slice a1 F.length d1) F ∧ RPrms wx (.slice a2 G.length d2) G from
    ⟨HBM.out.call h, HBU.out.call h, HBBx.out.trans (h.mono HBBx.out.size), HR1.out.below h (Nat.le_refl _), HR2.out.below h (Nat.le_refl _)⟩))
  have hY : Below w2.heap.size w2 w2 := Below.refl _ _
  clear bmR bmU hBB R1 R2
  obtain ⟨bmR, bmU, hBB, R1, R2⟩ := HY.out _ hY
  obtain ⟨p0, p1, p2, p3, p4, p5, p6, p7, q0, q1, q2, q3, q4, q5, q6, q7, zR⟩ := blkg8 bmR
  obtain ⟨m0, m1, m2, m3, m4, m5, m6, m7, f0, f1, f2, f3, f4, f5, f6, f7, zU⟩ := blkg8 bmU
  go_wp2_with (first | (go_at_call 79; refine (HC3.out _ hU3).mono ?_; rintro e wb ⟨v3, rfl, hP3, hC3⟩; have hY := hC3; obtain ⟨bmR, bmU, hBB, R1, R2⟩ := HY.out _ hY; obtain ⟨p0, p1, p2, p3, p4, p5, p6, p7, q0, q1, q2, q3, q4, q5, q6, q7, zR⟩ := blkg8 bmR; obtain ⟨m0, m1, m2, m3, m4, m5, m6, m7, f0, f1, f2, f3, f4, f5, f6, f7, zU⟩ := blkg8 bmU) | (at_builtin; refine wpList_appP1 ⟨nTag, us T, true⟩ rfl rfl rfl rfl rfl Tryz.underlying22 infoP rfl rfl hP3 hC3 (Nat.le_refl _) ?_ ?_; (focus omega); intro v' w' hP4 hB4; have hY := hB4; have hF3 := hP4.fresh.mono (show w.heap.size + 2 ≤ _ from ZW.out); obtain ⟨a3, d3, rfl, _, _⟩ := hP4.read.form; have R3 := hP4.read; obtain ⟨bmR, bmU, hBB, R1, R2⟩ := HY.out _ hY; obtain ⟨p0, p1, p2, p3, p4, p5, p6, p7, q0, q1, q2, q3, q4, q5, q6, q7, zR⟩ := blkg8 bmR; obtain ⟨m0, m1, m2, m3, m4, m5, m6, m7, f0, f1, f2, f3, f4, f5, f6, f7, zU⟩ := blkg8 bmU))
  refine bodyPost_ret (v := .agg #[.string D, .string S, .string U, .string H, .int .i64 n, .slice a1 F.length d1, .slice a2 G.length d2, .slice a3 (P ++ [(⟨nTag, us T, true⟩ : Prm)]).length d3]) (by simp [results, Tryz.results32, go_sem, m0, m1, m2, m3, m4, m5, m6, m7]) rfl ?_
  exact ⟨_, _, _, rfl, (RPrms.set (RPrms.set (RPrms.set (RPrms.set (RPrms.set (RPrms.set (RPrms.set (RPrms.set (RPrms.set R1 hF1 (p := ⟨w.heap.size, 7, none⟩) (show w.heap.size < w.heap.size + 2 by omega) _) hF1 (p := ⟨w.heap.size + 1, 0, none⟩) (show w.heap.size + 1 < w.heap.size + 2 by omega) _) hF1 (p := ⟨w.heap.size + 1, 1, none⟩) (show w.heap.size + 1 < w.heap.size + 2 by omega) _) hF1 (p := ⟨w.heap.size + 1, 2, none⟩) (show w.heap.size + 1 < w.heap.size + 2 by omega) _) hF1 (p := ⟨w.heap.size + 1, 3, none⟩) (show w.heap.size + 1 < w.heap.size + 2 by omega) _) hF1 (p := ⟨w.heap.size + 1, 4, none⟩) (show w.heap.size + 1 < w.heap.size + 2 by omega) _) hF1 (p := ⟨w.heap.size + 1, 5, none⟩) (show w.heap.size + 1 < w.heap.size + 2 by omega) _) hF1 (p := ⟨w.heap.size + 1, 6, none⟩) (show w.heap.size + 1 < w.heap.size + 2 by omega) _) hF1 (p := ⟨w.heap.size + 1, 7, none⟩) (show w.heap.size + 1 < w.heap.size + 2 by omega) _), (RPrms.set (RPrms.set (RPrms.set (RPrms.set (RPrms.set (RPrms.set (RPrms.set (RPrms.set (RPrms.set R2 hF2 (p := ⟨w.heap.size, 7, none⟩) (show w.heap.size < w.heap.size + 2 by omega) _) hF2 (p := ⟨w.heap.size + 1, 0, none⟩) (show w.heap.size + 1 < w.heap.size + 2 by omega) _) hF2 (p := ⟨w.heap.size + 1, 1, none⟩) (show w.heap.size + 1 < w.heap.size + 2 by omega) _) hF2 (p := ⟨w.heap.size + 1, 2, none⟩) (show w.heap.size + 1 < w.heap.size + 2 by omega) _) hF2 (p := ⟨w.heap.size + 1, 3, none⟩) (show w.heap.size + 1 < w.heap.size + 2 by omega) _) hF2 (p := ⟨w.heap.size + 1, 4, none⟩) (show w.heap.size + 1 < w.heap.size + 2 by omega) _) hF2 (p := ⟨w.heap.size + 1, 5, none⟩) (show w.heap.size + 1 < w.heap.size + 2 by omega) _) hF2 (p := ⟨w.heap.size + 1, 6, none⟩) (show w.heap.size + 1 < w.heap.size + 2 by omega) _) hF2 (p := ⟨w.heap.size + 1, 7, none⟩) (show w.heap.size + 1 < w.heap.size + 2 by omega) _), (RPrms.set (RPrms.set (RPrms.set (RPrms.set (RPrms.set (RPrms.set (RPrms.set (RPrms.set (RPrms.set R3 hF3 (p := ⟨w.heap.size, 7, none⟩) (show w.heap.size < w.heap.size + 2 by omega) _) hF3 (p := ⟨w.heap.size + 1, 0, none⟩) (show w.heap.size + 1 < w.heap.size + 2 by omega) _) hF3 (p := ⟨w.heap.size + 1, 1, none⟩) (show w.heap.size + 1 < w.heap.size + 2 by omega) _) hF3 (p := ⟨w.heap.size + 1, 2, none⟩) (show w.heap.size + 1 < w.heap.size + 2 by omega) _) hF3 (p := ⟨w.heap.size + 1, 3, none⟩) (show w.heap.size + 1 < w.heap.size + 2 by omega) _) hF3 (p := ⟨w.heap.size + 1, 4, none⟩) (show w.heap.size + 1 < w.heap.size + 2 by omega) _) hF3 (p := ⟨w.heap.size + 1, 5, none⟩) (show w.heap.size + 1 < w.heap.size + 2 by omega) _) hF3 (p := ⟨w.heap.size + 1, 6, none⟩) (show w.heap.size + 1 < w.heap.size + 2 by omega) _) hF3 (p := ⟨w.heap.size + 1, 7, none⟩) (show w.heap.size + 1 < w.heap.size + 2 by omega) _), hF1.mono (by omega), hF2.mono (by omega), hF3.mono (by omega), (((((((((hBB.setCell (Nat.le_refl _) _).setCell (Nat.le_succ _) _).setCell (Nat.le_succ _) _).setCell (Nat.le_succ _) _).setCell (Nat.le_succ _) _).setCell (Nat.le_succ _) _).setCell (Nat.le_succ _) _).setCell (Nat.le_succ _) _).setCell (Nat.le_succ _) _)⟩

end Go.Proofs.YtipdiddjhimdcaaGreatDoor

namespace Go.Proofs.YtipdiddjhimdcaaGreatDoor
set_option linter.unusedSimpArgs false
set_option linter.unusedVariables false
open Go.RowKit

def setAll (cs : Array Value) : Nat → List Value → Array Value
  | _, [] => cs
  | i, v :: r => setAll (cs.setIfInBounds i v) (i + 1) r
theorem setAll_size : ∀ (vs : List Value) (cs : Array Value) (i : Nat), (setAll cs i vs).size = cs.size
  | [], _, _ => rfl
  | v :: r, cs, i => by rw [setAll, setAll_size r, Array.size_setIfInBounds]
theorem setCells_far (g : Nat) : ∀ (vs : List Value) (i : Nat) (w : World) (k : Nat), k ≠ g → (w.setCells g i vs).heap[k]? = w.heap[k]?
  | [], _, _, _, _ => rfl
  | v :: r, i, w, k, hk => by rw [World.setCells, setCells_far g r (i + 1) _ k hk, Below.heap_setCell _ _ _ _ hk]
theorem setCells_size (g : Nat) : ∀ (vs : List Value) (i : Nat) (w : World), (w.setCells g i vs).heap.size = w.heap.size
  | [], _, _ => rfl
  | v :: r, i, w => by rw [World.setCells, setCells_size g r, World.size_setCell]
theorem setCells_blk {g : Nat} {t : TypeId} : ∀ (vs : List Value) (i : Nat) (w : World) (cs : Array Value), Blk w g t cs → Blk (w.setCells g i vs) g t (setAll cs i vs)
  | [], _, _, _, h => h
  | v :: r, i, w, cs, h => setCells_blk r (i + 1) _ _ (h.set_ i v)
theorem setCells_below {B g : Nat} (hB : B ≤ g) : ∀ (vs : List Value) (i : Nat) (w w0 : World), Below B w0 w → Below B w0 (w.setCells g i vs)
  | [], _, _, _, h => h
  | v :: r, i, w, w0, h => setCells_below hB r (i + 1) _ _ (h.setCell hB v)
section
variable {P : Program} {ops : Array Oper} {rest : List Oper} {o : Oper} {a : Act} {Q : Exit → Act → World → Prop}
theorem wpList_storeB {w : World} {g off : Nat} {t T : TypeId} {cs vs cs' : Array Value} {p x : Operand}
    (hgd : o.guard = none) (ho : o.op = .store T p x) (hp : a.eval p = .pointer (some ⟨g, off, none⟩)) (hx : a.eval x = .agg vs) (hC : (P.info? T).map (·.size) = some vs.size)
    (hb : Blk w g t cs) (hsz : off + vs.size ≤ cs.size) (h1 : (vs.toList.all fun v => v.oneCell') = true) (hcs : setAll cs off vs.toList = cs')
    (h : ∀ w', Blk w' g t cs' → (∀ k, k ≠ g → w'.heap[k]? = w.heap[k]?) → w'.heap.size = w.heap.size → (∀ B, B ≤ g → Below B w w') → wpList P ops Q rest (a.put o.dst undef) w') :
    wpList P ops Q (o :: rest) a w := by
  obtain ⟨i, hi, his⟩ := Option.map_eq_some_iff.1 hC
  refine wpList_plain hgd fun K hK => ?_
  have hcell : ∀ j, j < vs.toList.length → (w.cell? ⟨g, off + 0 + j, none⟩).isSome = true := by
    intro j hj
    have hj' : off + j < cs.size := by simp at hj; omega
    have : w.cell? ⟨g, off + j, none⟩ = cs[off + j]? := boxedCell hb (off + j)
    rw [Nat.add_zero, this]; simp [hj']
  have hfree : ∀ j, j < vs.toList.length → w.frozen? ⟨g, off + 0 + j, none⟩ = false := fun j _ => boxedFree hb _
  have hrun := run_storeCells_cells (P := P) g off vs.toList 0 w hcell hfree (List.all_eq_true.1 h1)
  have hex : (execOp a.eval o).run P w = .ok .skip (w.setCells g off vs.toList) := by
    simp only [Nat.add_zero] at hrun
    simp [execOp, ho, hp, hx, Instr.storeAt, Instr.sureAddr, storeVar, sizeOf, typeInfo, hi, his, Value.cells, hrun, Result.andThen]
  unfold Oper.wp
  rw [hex]
  exact hK _ _ (h _ (hcs ▸ setCells_blk _ _ _ _ hb) (fun k hk => setCells_far g _ _ _ k hk) (setCells_size g _ _ _) (fun B hB => setCells_below hB _ _ _ _ (Below.refl _ _)))
theorem wpList_loadB {w : World} {g off : Nat} {t T : TypeId} {fs : Array Field} {cs vs : Array Value} {p : Operand}
    (hgd : o.guard = none) (ho : o.op = .load T p) (hp : a.eval p = .pointer (some ⟨g, off, none⟩)) (hA : P.underlying T = some (.struct fs)) (hC : (P.info? T).map (·.size) = some vs.size)
    (hb : Blk w g t cs) (hvs : vs.toList = (cs.toList.drop off).take vs.size)
    (h : wpList P ops Q rest (a.put o.dst (.agg vs)) w) : wpList P ops Q (o :: rest) a w := by
  obtain ⟨i, hi, his⟩ := Option.map_eq_some_iff.1 hC
  refine wpList_plain hgd fun K hK => ?_
  have hcell : ∀ j v, vs.toList[j]? = some v → w.cell? ((⟨g, off, none⟩ : Addr).add j) = some v := by
    intro j v hj
    have hlt : j < vs.size := by have := (List.getElem?_eq_some_iff.1 hj).1; simpa using this
    have e : w.cell? ⟨g, off + j, none⟩ = cs[off + j]? := boxedCell hb (off + j)
    rw [add_cell, e, ← hj, hvs, List.getElem?_take_of_lt hlt, List.getElem?_drop]
    simp
  have hrun := run_loadCells_list (P := P) w ⟨g, off, none⟩ vs.toList hcell
  have hex : (execOp a.eval o).run P w = .ok (.value (.agg vs)) w := by
    simp [execOp, ho, hp, Instr.loadAt, Instr.sureAddr, loadVar, isAgg, run_underlying hA, sizeOf, typeInfo, hi, his, hrun, Result.andThen]
    first | done | (simp at hrun; simp [hrun])
  unfold Oper.wp
  rw [hex]
  exact hK _ _ h
end

end Go.Proofs.YtipdiddjhimdcaaGreatDoor

