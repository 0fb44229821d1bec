/-
  Packed: XSd, XOpen, XOpen2, XOpas, XOpl, XOpq.
-/
import Derived.Test.YtipdiddjhimdcaaGreatDoorB15
import Derived.Test.YtipdiddjhimdcaaGreatDoorB14
import Derived.Test.YtipdiddjhimdcaaGreatDoorRows
import Derived.Test.YtipdiddjhimdcaaGreatDoorB01
import Derived.SliceStrings
import Derived.SizedLaws
import Derived.OpenShut
import Derived.ProofKit
import Derived.Lib.SmallJoins
import Derived.Test.YtipdiddjhimdcaaGreatDoorB04
import Derived.Deep.Slices
import Derived.Deep.Fields
import Derived.ChangeSame
namespace Go.Proofs.YtipdiddjhimdcaaGreatDoor
set_option linter.unusedSimpArgs false
set_option linter.unusedVariables false
open Go.RowKit Go.Sort


set_option maxRecDepth 100000 in
set_option maxHeartbeats 6400000 in
theorem sameD_c (va vb : Value) (d : Dlg) (w : World) (ha : RDlg w va d) (hb : RDlg w vb d) :
    Calls Tryz.prog 14 #[va, vb] w fun e w' => e = .returned (.bool true) ∧ Below w.heap.size w w' := by
  obtain ⟨e1, y1, e2, y2, e3, y3, e4, y4, e5, y5, e6, y6, e7, y7, e8, y8, e9, y9, rfl, h1, h2, h3, h4, h5, h6, h7, h8, h9⟩ := ha.lit
  obtain ⟨g1, z1, g2, z2, g3, z3, g4, z4, g5, z5, g6, z6, g7, z7, g8, z8, g9, z9, rfl, k1, k2, k3, k4, k5, k6, k7, k8, k9⟩ := hb.lit
  clear ha hb
  have HS1 := Lib.hid (fun (wx : World) (h : Below w.heap.size w wx) => same5_yes (bs d.loc.disp) (bs d.loc.uri.scheme) (bs d.loc.uri.user) (bs d.loc.uri.host) d.loc.uri.port _ _ _ _ _ _ d.loc.uri.ps d.loc.uri.hs d.loc.ps wx (h1.below h (Nat.le_refl _)) (h2.below h (Nat.le_refl _)) (h3.below h (Nat.le_refl _)) (k1.below h (Nat.le_refl _)) (k2.below h (Nat.le_refl _)) (k3.below h (Nat.le_refl _)))
  have HS2 := Lib.hid (fun (wx : World) (h : Below w.heap.size w wx) => same5_yes (bs d.rem.disp) (bs d.rem.uri.scheme) (bs d.rem.uri.user) (bs d.rem.uri.host) d.rem.uri.port _ _ _ _ _ _ d.rem.uri.ps d.rem.uri.hs d.rem.ps wx (h4.below h (Nat.le_refl _)) (h5.below h (Nat.le_refl _)) (h6.below h (Nat.le_refl _)) (k4.below h (Nat.le_refl _)) (k5.below h (Nat.le_refl _)) (k6.below h (Nat.le_refl _)))
  have HS3 := Lib.hid (fun (wx : World) (h : Below w.heap.size w wx) => same3_yes (bs d.tgt.scheme) (bs d.tgt.user) (bs d.tgt.host) d.tgt.port _ _ _ _ d.tgt.ps d.tgt.hs wx (h7.below h (Nat.le_refl _)) (h8.below h (Nat.le_refl _)) (k7.below h (Nat.le_refl _)) (k8.below h (Nat.le_refl _)))
  have HS4 := Lib.hid (fun (wx : World) (h : Below w.heap.size w wx) => texts_c _ _ d.routes d.routes wx (h9.below h (Nat.le_refl _)) (k9.below h (Nat.le_refl _)))
  rw [show (d.routes == d.routes) = true by simp] at HS4
  clear h1 h2 h3 h4 h5 h6 h7 h8 h9 k1 k2 k3 k4 k5 k6 k7 k8 k9
  obtain ⟨vs, hvs⟩ : ∃ vs : Array Value, vs = #[.string (bs d.call), .string (bs d.loc.disp), .string (bs d.loc.uri.scheme), .string (bs d.loc.uri.user), .string (bs d.loc.uri.host), .int .i64 d.loc.uri.port, .slice e1 d.loc.uri.ps.length y1, .slice e2 d.loc.uri.hs.length y2, .slice e3 d.loc.ps.length y3, .string (bs d.rem.disp), .string (bs d.rem.uri.scheme), .string (bs d.rem.uri.user), .string (bs d.rem.uri.host), .int .i64 d.rem.uri.port, .slice e4 d.rem.uri.ps.length y4, .slice e5 d.rem.uri.hs.length y5, .slice e6 d.rem.ps.length y6, .string (bs d.tgt.scheme), .string (bs d.tgt.user), .string (bs d.tgt.host), .int .i64 d.tgt.port, .slice e7 d.tgt.ps.length y7, .slice e8 d.tgt.hs.length y8, .slice e9 d.routes.length y9, .int .i64 d.lin, .int .i64 d.lout] := ⟨_, rfl⟩
  obtain ⟨us_, hus⟩ : ∃ us : Array Value, us = #[.string (bs d.call), .string (bs d.loc.disp), .string (bs d.loc.uri.scheme), .string (bs d.loc.uri.user), .string (bs d.loc.uri.host), .int .i64 d.loc.uri.port, .slice g1 d.loc.uri.ps.length z1, .slice g2 d.loc.uri.hs.length z2, .slice g3 d.loc.ps.length z3, .string (bs d.rem.disp), .string (bs d.rem.uri.scheme), .string (bs d.rem.uri.user), .string (bs d.rem.uri.host), .int .i64 d.rem.uri.port, .slice g4 d.rem.uri.ps.length z4, .slice g5 d.rem.uri.hs.length z5, .slice g6 d.rem.ps.length z6, .string (bs d.tgt.scheme), .string (bs d.tgt.user), .string (bs d.tgt.host), .int .i64 d.tgt.port, .slice g7 d.tgt.ps.length z7, .slice g8 d.tgt.hs.length z8, .slice g9 d.routes.length z9, .int .i64 d.lin, .int .i64 d.lout] := ⟨_, rfl⟩
  rw [← hvs, ← hus]
  have hB0 : Below w.heap.size w ((w.alloc (.cells vs 34)).alloc (.cells us_ 34)) := ((Below.refl _ _).alloc (Nat.le_refl _) _).alloc (by rw [World.size_alloc]; omega) _
  have ba0 : Blk ((w.alloc (.cells vs 34)).alloc (.cells us_ 34)) w.heap.size 34 vs := (Blk.new w 34 vs).alloc _
  have bb0 : Blk ((w.alloc (.cells vs 34)).alloc (.cells us_ 34)) (w.heap.size + 1) 34 us_ := by
    have := Blk.new (w.alloc (.cells vs 34)) 34 us_
    rwa [World.size_alloc] at this
  obtain ⟨w0, hw0⟩ : ∃ w0, w0 = ((w.alloc (.cells vs 34)).alloc (.cells us_ 34)) := ⟨_, rfl⟩
  rw [← hw0] at hB0 ba0 bb0
  have HW0 := Lib.hid hw0
  have HX := Lib.hid (fun (wx : World) (h : Below w0.heap.size w0 wx) => (show wx.cell? ⟨w.heap.size, 0, none⟩ = some (.string (bs d.call)) ∧ wx.cell? ⟨w.heap.size, 1, none⟩ = some (.string (bs d.loc.disp)) ∧ wx.cell? ⟨w.heap.size, 2, none⟩ = some (.string (bs d.loc.uri.scheme)) ∧ wx.cell? ⟨w.heap.size, 3, none⟩ = some (.string (bs d.loc.uri.user)) ∧ wx.cell? ⟨w.heap.size, 4, none⟩ = some (.string (bs d.loc.uri.host)) ∧ wx.cell? ⟨w.heap.size, 5, none⟩ = some (.int .i64 d.loc.uri.port) ∧ wx.cell? ⟨w.heap.size, 6, none⟩ = some (.slice e1 d.loc.uri.ps.length y1) ∧ wx.cell? ⟨w.heap.size, 7, none⟩ = some (.slice e2 d.loc.uri.hs.length y2) ∧ wx.cell? ⟨w.heap.size, 8, none⟩ = some (.slice e3 d.loc.ps.length y3) ∧ wx.cell? ⟨w.heap.size, 9, none⟩ = some (.string (bs d.rem.disp)) ∧ wx.cell? ⟨w.heap.size, 10, none⟩ = some (.string (bs d.rem.uri.scheme)) ∧ wx.cell? ⟨w.heap.size, 11, none⟩ = some (.string (bs d.rem.uri.user)) ∧ wx.cell? ⟨w.heap.size, 12, none⟩ = some (.string (bs d.rem.uri.host)) ∧ wx.cell? ⟨w.heap.size, 13, none⟩ = some (.int .i64 d.rem.uri.port) ∧ wx.cell? ⟨w.heap.size, 14, none⟩ = some (.slice e4 d.rem.uri.ps.length y4) ∧ wx.cell? ⟨w.heap.size, 15, none⟩ = some (.slice e5 d.rem.uri.hs.length y5) ∧ wx.cell? ⟨w.heap.size, 16, none⟩ = some (.slice e6 d.rem.ps.length y6) ∧ wx.cell? ⟨w.heap.size, 17, none⟩ = some (.string (bs d.tgt.scheme)) ∧ wx.cell? ⟨w.heap.size, 18, none⟩ = some (.string (bs d.tgt.user)) ∧ wx.cell? ⟨w.heap.size, 19, none⟩ = some (.string (bs d.tgt.host)) ∧ wx.cell? ⟨w.heap.size, 20, none⟩ = some (.int .i64 d.tgt.port) ∧ wx.cell? ⟨w.heap.size, 21, none⟩ = some (.slice e7 d.tgt.ps.length y7) ∧ wx.cell? ⟨w.heap.size, 22, none⟩ = some (.slice e8 d.tgt.hs.length y8) ∧ wx.cell? ⟨w.heap.size, 23, none⟩ = some (.slice e9 d.routes.length y9) ∧ wx.cell? ⟨w.heap.size, 24, none⟩ = some (.int .i64 d.lin) ∧ wx.cell? ⟨w.heap.size, 25, none⟩ = some (.int .i64 d.lout) from by
    have b := ba0.call h
    rw [hvs] at b
    exact ⟨boxedCell b 0, boxedCell b 1, boxedCell b 2, boxedCell b 3, boxedCell b 4, boxedCell b 5, boxedCell b 6, boxedCell b 7, boxedCell b 8, boxedCell b 9, boxedCell b 10, boxedCell b 11, boxedCell b 12, boxedCell b 13, boxedCell b 14, boxedCell b 15, boxedCell b 16, boxedCell b 17, boxedCell b 18, boxedCell b 19, boxedCell b 20, boxedCell b 21, boxedCell b 22, boxedCell b 23, boxedCell b 24, boxedCell b 25⟩))
  have HY := Lib.hid (fun (wx : World) (h : Below w0.heap.size w0 wx) => (show wx.cell? ⟨w.heap.size + 1, 0, none⟩ = some (.string (bs d.call)) ∧ wx.cell? ⟨w.heap.size + 1, 1, none⟩ = some (.string (bs d.loc.disp)) ∧ wx.cell? ⟨w.heap.size + 1, 2, none⟩ = some (.string (bs d.loc.uri.scheme)) ∧ wx.cell? ⟨w.heap.size + 1, 3, none⟩ = some (.string (bs d.loc.uri.user)) ∧ wx.cell? ⟨w.heap.size + 1, 4, none⟩ = some (.string (bs d.loc.uri.host)) ∧ wx.cell? ⟨w.heap.size + 1, 5, none⟩ = some (.int .i64 d.loc.uri.port) ∧ wx.cell? ⟨w.heap.size + 1, 6, none⟩ = some (.slice g1 d.loc.uri.ps.length z1) ∧ wx.cell? ⟨w.heap.size + 1, 7, none⟩ = some (.slice g2 d.loc.uri.hs.length z2) ∧ wx.cell? ⟨w.heap.size + 1, 8, none⟩ = some (.slice g3 d.loc.ps.length z3) ∧ wx.cell? ⟨w.heap.size + 1, 9, none⟩ = some (.string (bs d.rem.disp)) ∧ wx.cell? ⟨w.heap.size + 1, 10, none⟩ = some (.string (bs d.rem.uri.scheme)) ∧ wx.cell? ⟨w.heap.size + 1, 11, none⟩ = some (.string (bs d.rem.uri.user)) ∧ wx.cell? ⟨w.heap.size + 1, 12, none⟩ = some (.string (bs d.rem.uri.host)) ∧ wx.cell? ⟨w.heap.size + 1, 13, none⟩ = some (.int .i64 d.rem.uri.port) ∧ wx.cell? ⟨w.heap.size + 1, 14, none⟩ = some (.slice g4 d.rem.uri.ps.length z4) ∧ wx.cell? ⟨w.heap.size + 1, 15, none⟩ = some (.slice g5 d.rem.uri.hs.length z5) ∧ wx.cell? ⟨w.heap.size + 1, 16, none⟩ = some (.slice g6 d.rem.ps.length z6) ∧ wx.cell? ⟨w.heap.size + 1, 17, none⟩ = some (.string (bs d.tgt.scheme)) ∧ wx.cell? ⟨w.heap.size + 1, 18, none⟩ = some (.string (bs d.tgt.user)) ∧ wx.cell? ⟨w.heap.size + 1, 19, none⟩ = some (.string (bs d.tgt.host)) ∧ wx.cell? ⟨w.heap.size + 1, 20, none⟩ = some (.int .i64 d.tgt.port) ∧ wx.cell? ⟨w.heap.size + 1, 21, none⟩ = some (.slice g7 d.tgt.ps.length z7) ∧ wx.cell? ⟨w.heap.size + 1, 22, none⟩ = some (.slice g8 d.tgt.hs.length z8) ∧ wx.cell? ⟨w.heap.size + 1, 23, none⟩ = some (.slice g9 d.routes.length z9) ∧ wx.cell? ⟨w.heap.size + 1, 24, none⟩ = some (.int .i64 d.lin) ∧ wx.cell? ⟨w.heap.size + 1, 25, none⟩ = some (.int .i64 d.lout) from by
    have b := bb0.call h
    rw [hus] at b
    exact ⟨boxedCell b 0, boxedCell b 1, boxedCell b 2, boxedCell b 3, boxedCell b 4, boxedCell b 5, boxedCell b 6, boxedCell b 7, boxedCell b 8, boxedCell b 9, boxedCell b 10, boxedCell b 11, boxedCell b 12, boxedCell b 13, boxedCell b 14, boxedCell b 15, boxedCell b 16, boxedCell b 17, boxedCell b 18, boxedCell b 19, boxedCell b 20, boxedCell b 21, boxedCell b 22, boxedCell b 23, boxedCell b 24, boxedCell b 25⟩))
  have HB := Lib.hid hB0
  have hZ : Below w0.heap.size w0 w0 := Below.refl _ _
  obtain ⟨p0, p1, p2, p3, p4, p5, p6, p7, p8, p9, p10, p11, p12, p13, p14, p15, p16, p17, p18, p19, p20, p21, p22, p23, p24, p25⟩ := HX.out _ hZ
  obtain ⟨q0, q1, q2, q3, q4, q5, q6, q7, q8, q9, q10, q11, q12, q13, q14, q15, q16, q17, q18, q19, q20, q21, q22, q23, q24, q25⟩ := HY.out _ hZ
  have hBB := HB.out.trans (hZ.mono HB.out.size)
  clear hw0 hB0 ba0 bb0 hvs hus
  go_enter Tryz.func14, Tryz.ntmps14
  go_upto_region 1 with fail
  rw [← HW0.out]
  go_wp2_with (first | (go_at_call 20; first | ((with_reducible refine (HS1.out _ hBB).mono ?_); rintro e wx ⟨rfl, hC⟩; replace hZ := hZ.trans (hC.mono hZ.size); clear hC; clear p0 p1 p2 p3 p4 p5 p6 p7 p8 p9 p10 p11 p12 p13 p14 p15 p16 p17 p18 p19 p20 p21 p22 p23 p24 p25 q0 q1 q2 q3 q4 q5 q6 q7 q8 q9 q10 q11 q12 q13 q14 q15 q16 q17 q18 q19 q20 q21 q22 q23 q24 q25 hBB; obtain ⟨p0, p1, p2, p3, p4, p5, p6, p7, p8, p9, p10, p11, p12, p13, p14, p15, p16, p17, p18, p19, p20, p21, p22, p23, p24, p25⟩ := HX.out _ hZ; obtain ⟨q0, q1, q2, q3, q4, q5, q6, q7, q8, q9, q10, q11, q12, q13, q14, q15, q16, q17, q18, q19, q20, q21, q22, q23, q24, q25⟩ := HY.out _ hZ; have hBB := HB.out.trans (hZ.mono HB.out.size)) | ((with_reducible refine (HS2.out _ hBB).mono ?_); rintro e wx ⟨rfl, hC⟩; replace hZ := hZ.trans (hC.mono hZ.size); clear hC; clear p0 p1 p2 p3 p4 p5 p6 p7 p8 p9 p10 p11 p12 p13 p14 p15 p16 p17 p18 p19 p20 p21 p22 p23 p24 p25 q0 q1 q2 q3 q4 q5 q6 q7 q8 q9 q10 q11 q12 q13 q14 q15 q16 q17 q18 q19 q20 q21 q22 q23 q24 q25 hBB; obtain ⟨p0, p1, p2, p3, p4, p5, p6, p7, p8, p9, p10, p11, p12, p13, p14, p15, p16, p17, p18, p19, p20, p21, p22, p23, p24, p25⟩ := HX.out _ hZ; obtain ⟨q0, q1, q2, q3, q4, q5, q6, q7, q8, q9, q10, q11, q12, q13, q14, q15, q16, q17, q18, q19, q20, q21, q22, q23, q24, q25⟩ := HY.out _ hZ; have hBB := HB.out.trans (hZ.mono HB.out.size))) | (go_at_call 43; first | ((with_reducible refine (HS3.out _ hBB).mono ?_); rintro e wx ⟨rfl, hC⟩; replace hZ := hZ.trans (hC.mono hZ.size); clear hC; clear p0 p1 p2 p3 p4 p5 p6 p7 p8 p9 p10 p11 p12 p13 p14 p15 p16 p17 p18 p19 p20 p21 p22 p23 p24 p25 q0 q1 q2 q3 q4 q5 q6 q7 q8 q9 q10 q11 q12 q13 q14 q15 q16 q17 q18 q19 q20 q21 q22 q23 q24 q25 hBB; obtain ⟨p0, p1, p2, p3, p4, p5, p6, p7, p8, p9, p10, p11, p12, p13, p14, p15, p16, p17, p18, p19, p20, p21, p22, p23, p24, p25⟩ := HX.out _ hZ; obtain ⟨q0, q1, q2, q3, q4, q5, q6, q7, q8, q9, q10, q11, q12, q13, q14, q15, q16, q17, q18, q19, q20, q21, q22, q23, q24, q25⟩ := HY.out _ hZ; have hBB := HB.out.trans (hZ.mono HB.out.size))) | (go_at_call 44; first | ((with_reducible refine (HS4.out _ hBB).mono ?_); rintro e wx ⟨rfl, hC⟩; replace hZ := hZ.trans (hC.below (B := w0.heap.size)); clear hC; clear p0 p1 p2 p3 p4 p5 p6 p7 p8 p9 p10 p11 p12 p13 p14 p15 p16 p17 p18 p19 p20 p21 p22 p23 p24 p25 q0 q1 q2 q3 q4 q5 q6 q7 q8 q9 q10 q11 q12 q13 q14 q15 q16 q17 q18 q19 q20 q21 q22 q23 q24 q25 hBB; obtain ⟨p0, p1, p2, p3, p4, p5, p6, p7, p8, p9, p10, p11, p12, p13, p14, p15, p16, p17, p18, p19, p20, p21, p22, p23, p24, p25⟩ := HX.out _ hZ; obtain ⟨q0, q1, q2, q3, q4, q5, q6, q7, q8, q9, q10, q11, q12, q13, q14, q15, q16, q17, q18, q19, q20, q21, q22, q23, q24, q25⟩ := HY.out _ hZ; have hBB := HB.out.trans (hZ.mono HB.out.size))))
  go_ret
  exact ⟨rfl, hBB⟩

end Go.Proofs.YtipdiddjhimdcaaGreatDoor

namespace Go.Proofs.YtipdiddjhimdcaaGreatDoor
open Go.ChangeShapes Go.WideShapes Go.ChangeAt Go.RowKit

theorem addr_of_cell {w : World} {a : Addr} {v : Value} (h : w.cell? a = some v) : a = ⟨a.block, a.off, none⟩ ∧ a.block < w.heap.size := by
  obtain ⟨b, o, sp⟩ := a
  cases sp with
  | none =>
    refine ⟨rfl, ?_⟩
    rcases Nat.lt_or_ge b w.heap.size with hlt | hge
    · exact hlt
    · simp [World.cell?, Array.getElem?_eq_none hge] at h
  | some x =>
    exfalso
    simp only [World.cell?] at h
    split at h <;> simp at h
theorem add_at (b o i : Nat) : (⟨b, o, none⟩ : Addr).add i = ⟨b, o + i, none⟩ := by unfold Addr.add; split <;> simp_all
theorem bulk_mem {H : Type} : ∀ (l : List (DataW H)) (d : DataW H), d ∈ l → Rows.uptoBulk d ≤ Rows.uptoBulkAll l
  | x :: r, d, h => by
    rw [Rows.uptoBulkAll]
    rcases List.mem_cons.1 h with rfl | h
    · exact Nat.le_add_right _ _
    · have := bulk_mem r d h; omega
theorem bulk_len {H : Type} : ∀ (l : List (DataW H)), (∀ d ∈ l, 1 ≤ Rows.uptoBulk d) → l.length ≤ Rows.uptoBulkAll l
  | [], _ => Nat.zero_le _
  | x :: r, h => by
    rw [Rows.uptoBulkAll, List.length_cons]
    have := h x (List.mem_cons_self ..)
    have := bulk_len r (fun d hd => h d (List.mem_cons_of_mem _ hd))
    omega
section
variable {H : Type} {enc : TypeId × Value → H} {P : Program} {w : World} {base : Nat} {spare : Nat → Bool} {held : Bool}
end

end Go.Proofs.YtipdiddjhimdcaaGreatDoor

namespace Go.Proofs.YtipdiddjhimdcaaGreatDoor
open Go.ChangeShapes Go.WideShapes Go.ChangeAt Go.RowKit Go.Deep Go.Joins

/-- what a cell tells: a string's bytes, a bool -/
def rdS (w : World) (a : Addr) : List UInt8 := match w.cell? a with | some (.string s) => us s | _ => []
def rdB (w : World) (a : Addr) : Bool := match w.cell? a with | some (.bool b) => b | _ => false
def rdP (w : World) (b off i : Nat) : Prm := ⟨rdS w ⟨b, off + i * 3, none⟩, rdS w ⟨b, off + i * 3 + 1, none⟩, rdB w ⟨b, off + i * 3 + 2, none⟩⟩

section
variable {H : Type} {enc : TypeId × Value → H} {P : Program} {w : World} {base : Nat} {spare : Nat → Bool} {held : Bool}
theorem open_prms {t e : TypeId} {fuel : Nat} {v : Value} {x : DataW H × List MemPlace} {f0 f1 f2 : Field} (ht : P.underlying t = some (.slice e)) (he : P.underlying e = some (.struct #[f0, f1, f2]))
    (hone : oneCellFields P #[f0, f1, f2] = true) (hC : P.cellsOf e = 3) (h0 : P.underlying f0.type = some .string) (h1 : P.underlying f1.type = some .string) (h2 : P.underlying f2.type = some .bool)
    (h : DataW.trod enc P w base spare held fuel t [v] = some x) :
    ∃ L, RPrms w v L ∧ (∀ p ∈ L, p.name.length + p.value.length + 2 ≤ Rows.uptoBulk x.1) ∧ L.length ≤ Rows.uptoBulk x.1 := by
  rcases open_slice ht h with ⟨hcs, hx⟩ | ⟨a, len, cap, m, n, D, Pl, hcs, hb, hl, hm, hmm, hx, hi⟩
  · simp only [List.cons.injEq, and_true] at hcs
    subst hcs hx
    exact ⟨[], .inl ⟨⟨_, _, rfl⟩, rfl⟩, ⟨(fun p hp => by simp at hp), Nat.zero_le _⟩⟩
  · simp only [List.cons.injEq, and_true] at hcs
    subst hcs
    have hlm : len ≤ m := by rw [hmm]; split <;> omega
    have each : ∀ i, i < m → ∃ (s0 s1 : ByteArray) (b : Bool), w.cell? (a.add (i * 3)) = some (.string s0) ∧ w.cell? (a.add (i * 3 + 1)) = some (.string s1) ∧ w.cell? (a.add (i * 3 + 2)) = some (.bool b) ∧
        Rows.uptoBulk (D i) = (s0.size + 1) + ((s1.size + 1) + (1 + 0)) + 1 := by
      intro i him
      obtain ⟨cs', hc, ht'⟩ := hi i him
      rw [hC] at hc
      obtain ⟨ys, n', hn', hy, hlen, hyl, hf⟩ := DataW.trod_struct he ht'
      obtain ⟨_, hcl, hat⟩ := World.cells?_some hc
      simp only [Prod.mk.injEq] at hy
      have part : ∀ (j : Nat) (f : Field), (#[f0, f1, f2] : Array Field)[j]? = some f → ∃ (v : Value) (y : DataW H × List MemPlace), w.cell? (a.add (i * 3 + j)) = some v ∧ ys[j]? = some y ∧ DataW.trod enc P w base spare held n' f.type [v] = some y := by
        intro j f hj
        obtain ⟨ho, hk⟩ := hone_of hone j f hj
        have hjl : j < 3 := (Array.getElem?_eq_some_iff.1 hj).1
        have hcell := hat j hjl
        have hv : cs'[j]? = some (cs'[j]'(by omega)) := List.getElem?_eq_getElem (by omega)
        have h1 := hf j f hj
        rw [ho, hk] at h1
        have hone' : (cs'.drop j).take 1 = [cs'[j]'(by omega)] := by
          rw [List.drop_eq_getElem_cons (by omega)]; rfl
        rw [hone'] at h1
        have hys : ys[j]? = some (ys[j]'(by rw [hyl]; exact hjl)) := List.getElem?_eq_getElem (by rw [hyl]; exact hjl)
        refine ⟨_, _, ?_, hys, h1.trans hys⟩
        rw [add_add] at hcell
        rw [hcell, hv]
      obtain ⟨v0, y0, c0, e0, t0⟩ := part 0 f0 rfl
      obtain ⟨v1, y1, c1, e1, t1⟩ := part 1 f1 rfl
      obtain ⟨v2, y2, c2, e2, t2⟩ := part 2 f2 rfl
      obtain ⟨s0, g0, rfl, _⟩ := DataW.trod_string h0 t0
      obtain ⟨s1, g1, rfl, _⟩ := DataW.trod_string h1 t1
      obtain ⟨b, g2, rfl⟩ := DataW.trod_bool h2 t2
      simp only [List.cons.injEq, and_true] at g0 g1 g2
      subst g0 g1 g2
      refine ⟨s0, s1, b, c0, c1, c2, ?_⟩
      have hys : ys = [(.lit (.string s0.data.toList), []), (.lit (.string s1.data.toList), []), (.lit (.bool b), [])] := by
        match ys, hyl, e0, e1, e2 with
        | [z0, z1, z2], _, e0, e1, e2 =>
          simp at e0 e1 e2
          rw [e0, e1, e2]
      rw [hy.1, hys]
      show Rows.uptoBulk (DataW.agg [.lit (.string s0.data.toList), .lit (.string s1.data.toList), .lit (.bool b)]) = _
      simp only [Rows.uptoBulk, Rows.uptoBulkAll, Array.length_toList]
      rfl
    rw [hx]
    rcases Nat.eq_zero_or_pos len with hz | hz
    · subst hz
      exact ⟨[], .inl ⟨⟨_, _, rfl⟩, rfl⟩, ⟨(fun p hp => by simp at hp), Nat.zero_le _⟩⟩
    · obtain ⟨s0, s1, b, c0, _⟩ := each 0 (by omega)
      rw [Nat.zero_mul, show a.add 0 = a from rfl] at c0
      obtain ⟨ha, hblt⟩ := addr_of_cell c0
      obtain ⟨ab, ao, asp⟩ := a
      simp only [Addr.mk.injEq, true_and] at ha
      subst ha
      have hF : ∀ i, i < len → w.cell? ⟨ab, ao + i * 3, none⟩ = some (sv (rdP w ab ao i).name) ∧ w.cell? ⟨ab, ao + i * 3 + 1, none⟩ = some (sv (rdP w ab ao i).value) ∧ w.cell? ⟨ab, ao + i * 3 + 2, none⟩ = some (.bool (rdP w ab ao i).has) ∧
          (rdP w ab ao i).name.length + (rdP w ab ao i).value.length + 4 ≤ Rows.uptoBulk (D i) := by
        intro i hil
        obtain ⟨s0, s1, b, c0, c1, c2, hbk⟩ := each i (by omega)
        rw [add_at] at c0 c1 c2
        rw [← Nat.add_assoc] at c1 c2
        unfold rdP rdS rdB sv
        rw [c0, c1, c2, hbk]
        simp only [bs_us, length_us]
        exact ⟨trivial, trivial, trivial, by omega⟩
      refine ⟨(List.range len).map (rdP w ab ao), .inr ⟨ab, ao, cap, by rw [List.length_map, List.length_range], by rw [List.length_map, List.length_range]; exact hl, hm, hblt, fun j hj => ?_⟩, ?_, ?_⟩
      · rw [List.length_map, List.length_range] at hj
        rw [List.getElem_map, List.getElem_range]
        exact ⟨(hF j hj).1, (hF j hj).2.1, (hF j hj).2.2.1⟩
      · intro p hp
        obtain ⟨i, hi', rfl⟩ := List.mem_map.1 hp
        have hil := List.mem_range.1 hi'
        have h3 := (hF i hil).2.2.2
        have h4 := bulk_mem ((List.range len).map D) (D i) (List.mem_map.2 ⟨i, hi', rfl⟩)
        rw [Rows.uptoBulk]; omega
      · rw [List.length_map, List.length_range, Rows.uptoBulk]
        have h5 := bulk_len ((List.range len).map D) (fun d hd => by
          obtain ⟨i, hi', rfl⟩ := List.mem_map.1 hd
          have := (hF i (List.mem_range.1 hi')).2.2.2
          omega)
        rw [List.length_map, List.length_range] at h5
        omega
end

end Go.Proofs.YtipdiddjhimdcaaGreatDoor

namespace Go.Proofs.YtipdiddjhimdcaaGreatDoor
set_option linter.unusedSimpArgs false
set_option linter.unusedVariables false
open Go.ChangeShapes Go.WideShapes Go.ChangeAt Go.RowKit Go.Deep Go.Joins

theorem list_of_eachA {α : Type} (P : Nat → α → Prop) : ∀ n, (∀ i, i < n → ∃ x, P i x) → ∃ L : List α, L.length = n ∧ ∀ j (hj : j < L.length), P j L[j]
  | 0, _ => ⟨[], rfl, fun j hj => absurd hj (Nat.not_lt_zero _)⟩
  | n + 1, h => by
    obtain ⟨L, hl, hL⟩ := list_of_eachA P n (fun i hi => h i (by omega))
    obtain ⟨x, hx⟩ := h n (by omega)
    refine ⟨L ++ [x], by rw [List.length_append, hl]; rfl, fun j hj => ?_⟩
    rw [List.length_append, List.length_singleton] at hj
    rcases Nat.lt_or_ge j L.length with h1 | h1
    · rw [List.getElem_append_left h1]; exact hL j h1
    · have : j = L.length := by omega
      subst this
      rw [List.getElem_concat_length rfl, hl]; exact hx
theorem i64_of_wfA {n : Int} (h : (Lit.int .i64 n).wf = true) : -9223372036854775808 ≤ n ∧ n ≤ 9223372036854775807 := by
  simp [Lit.wf, IntKind.min, IntKind.max, IntKind.signed, IntKind.bits] at h; omega
def AdrBd (B : Nat) (a : Adr) : Prop :=
  (a.disp.length ≤ B ∧ a.uri.scheme.length ≤ B ∧ a.uri.user.length ≤ B ∧ a.uri.host.length ≤ B) ∧ (-9223372036854775808 ≤ a.uri.port ∧ a.uri.port ≤ 9223372036854775807) ∧
  (∀ p ∈ a.uri.ps, p.name.length ≤ B ∧ p.value.length ≤ B) ∧ (∀ p ∈ a.uri.hs, p.name.length ≤ B ∧ p.value.length ≤ B) ∧ (∀ p ∈ a.ps, p.name.length ≤ B ∧ p.value.length ≤ B)
theorem AdrBd.mono {B B' : Nat} {a : Adr} (h : AdrBd B a) (hB : B ≤ B') : AdrBd B' a := by
  obtain ⟨⟨h1, h2, h3, h4⟩, h5, h6, h7, h8⟩ := h
  exact ⟨⟨by omega, by omega, by omega, by omega⟩, h5, fun p hp => by have := h6 p hp; omega, fun p hp => by have := h7 p hp; omega, fun p hp => by have := h8 p hp; omega⟩

section
variable {H : Type} {enc : TypeId × Value → H} {P : Program} {w : World} {base : Nat} {spare : Nat → Bool} {held : Bool}
end

end Go.Proofs.YtipdiddjhimdcaaGreatDoor

namespace Go.Proofs.YtipdiddjhimdcaaGreatDoor
set_option linter.unusedSimpArgs false
set_option linter.unusedVariables false
open Go.ChangeShapes Go.WideShapes Go.ChangeAt Go.RowKit Go.Deep Go.Joins

def AdrBdL (B : Nat) (a : Adr) : Prop :=
  (a.disp.length ≤ B ∧ a.uri.scheme.length ≤ B ∧ a.uri.user.length ≤ B ∧ a.uri.host.length ≤ B) ∧ (-9223372036854775808 ≤ a.uri.port ∧ a.uri.port ≤ 9223372036854775807) ∧
  (∀ p ∈ a.uri.ps, p.name.length ≤ B ∧ p.value.length ≤ B) ∧ (∀ p ∈ a.uri.hs, p.name.length ≤ B ∧ p.value.length ≤ B) ∧ (∀ p ∈ a.ps, p.name.length ≤ B ∧ p.value.length ≤ B) ∧ a.uri.ps.length ≤ B ∧ a.uri.hs.length ≤ B ∧ a.ps.length ≤ B
theorem AdrBdL.mono {B B' : Nat} {a : Adr} (h : AdrBdL B a) (hB : B ≤ B') : AdrBdL B' a := by
  obtain ⟨⟨h1, h2, h3, h4⟩, h5, h6, h7, h8, h9, h10, h11⟩ := h
  exact ⟨⟨by omega, by omega, by omega, by omega⟩, h5, fun p hp => by have := h6 p hp; omega, fun p hp => by have := h7 p hp; omega, fun p hp => by have := h8 p hp; omega, by omega, by omega, by omega⟩

section
variable {H : Type} {enc : TypeId × Value → H} {P : Program} {w : World} {base : Nat} {spare : Nat → Bool} {held : Bool}
theorem open_uriL {t : TypeId} {f0 f1 f2 f3 f4 f5 : Field} {c0 c1 c2 c3 c4 c5 : Value} {fuel : Nat} {x : DataW H × List MemPlace} {e : TypeId} {g0 g1 g2 : Field} (hs : P.underlying t = some (.struct #[f0, f1, f2, f3, f4, f5])) (hone : oneCellFields P #[f0, f1, f2, f3, f4, f5] = true)
    (h0 : P.underlying f0.type = some .string) (h1 : P.underlying f1.type = some .string) (h2 : P.underlying f2.type = some .string) (h3 : P.underlying f3.type = some (.int .i64)) (h4 : P.underlying f4.type = some (.slice e)) (h5 : P.underlying f5.type = some (.slice e))
    (he : P.underlying e = some (.struct #[g0, g1, g2])) (hone' : oneCellFields P #[g0, g1, g2] = true) (hC' : P.cellsOf e = 3) (k0 : P.underlying g0.type = some .string) (k1 : P.underlying g1.type = some .string) (k2 : P.underlying g2.type = some .bool)
    (h : DataW.trod enc P w base spare held fuel t [c0, c1, c2, c3, c4, c5] = some x) :
    ∃ (S U T : ByteArray) (n : Int) (F G : List Prm), c0 = .string S ∧ c1 = .string U ∧ c2 = .string T ∧ c3 = .int .i64 n ∧ (Lit.int .i64 n).wf = true ∧ RPrms w c4 F ∧ RPrms w c5 G ∧ S.size + U.size + T.size ≤ Rows.uptoBulk x.1 ∧
      (∀ p ∈ F, p.name.length ≤ Rows.uptoBulk x.1 ∧ p.value.length ≤ Rows.uptoBulk x.1) ∧ (∀ p ∈ G, p.name.length ≤ Rows.uptoBulk x.1 ∧ p.value.length ≤ Rows.uptoBulk x.1) ∧
      F.length ≤ Rows.uptoBulk x.1 ∧ G.length ≤ Rows.uptoBulk x.1 := by
  obtain ⟨xs, n, _, hx, hl, hlen, hf⟩ := DataW.trod_struct hs h
  obtain ⟨o0, z0⟩ := hone_of hone 0 f0 rfl
  obtain ⟨o1, z1⟩ := hone_of hone 1 f1 rfl
  obtain ⟨o2, z2⟩ := hone_of hone 2 f2 rfl
  obtain ⟨o3, z3⟩ := hone_of hone 3 f3 rfl
  obtain ⟨o4, z4⟩ := hone_of hone 4 f4 rfl
  obtain ⟨o5, z5⟩ := hone_of hone 5 f5 rfl
  have q0 := hf 0 f0 rfl
  have q1 := hf 1 f1 rfl
  have q2 := hf 2 f2 rfl
  have q3 := hf 3 f3 rfl
  have q4 := hf 4 f4 rfl
  have q5 := hf 5 f5 rfl
  clear hf hone
  match xs, hlen with
  | [y0, y1, y2, y3, y4, y5], _ =>
    replace q0 : DataW.trod enc P w base spare held n f0.type [c0] = some y0 := by simpa [o0, z0] using q0
    replace q1 : DataW.trod enc P w base spare held n f1.type [c1] = some y1 := by simpa [o1, z1] using q1
    replace q2 : DataW.trod enc P w base spare held n f2.type [c2] = some y2 := by simpa [o2, z2] using q2
    replace q3 : DataW.trod enc P w base spare held n f3.type [c3] = some y3 := by simpa [o3, z3] using q3
    replace q4 : DataW.trod enc P w base spare held n f4.type [c4] = some y4 := by simpa [o4, z4] using q4
    replace q5 : DataW.trod enc P w base spare held n f5.type [c5] = some y5 := by simpa [o5, z5] using q5
    obtain ⟨S, e0, rfl, _⟩ := DataW.trod_string h0 q0
    obtain ⟨U, e1, rfl, _⟩ := DataW.trod_string h1 q1
    obtain ⟨T, e2, rfl, _⟩ := DataW.trod_string h2 q2
    obtain ⟨m, e3, rfl, hw⟩ := DataW.trod_int h3 q3
    obtain ⟨F, hF, bF, lF⟩ := open_prms h4 he hone' hC' k0 k1 k2 q4
    obtain ⟨G, hG, bG, lG⟩ := open_prms h5 he hone' hC' k0 k1 k2 q5
    simp only [List.cons.injEq, and_true] at e0 e1 e2 e3
    have hd : Rows.uptoBulk x.1 = (S.size + 1) + ((U.size + 1) + ((T.size + 1) + (1 + (Rows.uptoBulk y4.1 + (Rows.uptoBulk y5.1 + 0))))) + 1 := by
      rw [hx]
      simp only [List.map_cons, List.map_nil, Rows.uptoBulk, Rows.uptoBulkAll, Array.length_toList]; rfl
    refine ⟨S, U, T, m, F, G, e0, e1, e2, e3, hw, hF, hG, by rw [hd]; omega, fun p hp => ?_, fun p hp => ?_, by rw [hd]; omega, by rw [hd]; omega⟩
    · have := bF p hp
      rw [hd]; omega
    · have := bG p hp
      rw [hd]; omega
theorem open_adrL {t : TypeId} {a0 a1 a2 : Field} {f0 f1 f2 f3 f4 f5 : Field} {c0 c1 c2 c3 c4 c5 c6 c7 : Value} {fuel : Nat} {x : DataW H × List MemPlace} {e : TypeId} {g0 g1 g2 : Field} (hA : P.underlying t = some (.struct #[a0, a1, a2]))
    (oa : a0.offset = 0 ∧ P.cellsOf a0.type = 1 ∧ a1.offset = 1 ∧ P.cellsOf a1.type = 6 ∧ a2.offset = 7 ∧ P.cellsOf a2.type = 1) (r0 : P.underlying a0.type = some .string) (r2 : P.underlying a2.type = some (.slice e))
    (hs : P.underlying a1.type = some (.struct #[f0, f1, f2, f3, f4, f5])) (hone : oneCellFields P #[f0, f1, f2, f3, f4, f5] = true)
    (h0 : P.underlying f0.type = some .string) (h1 : P.underlying f1.type = some .string) (h2 : P.underlying f2.type = some .string) (h3 : P.underlying f3.type = some (.int .i64)) (h4 : P.underlying f4.type = some (.slice e)) (h5 : P.underlying f5.type = some (.slice e))
    (he : P.underlying e = some (.struct #[g0, g1, g2])) (hone' : oneCellFields P #[g0, g1, g2] = true) (hC' : P.cellsOf e = 3) (k0 : P.underlying g0.type = some .string) (k1 : P.underlying g1.type = some .string) (k2 : P.underlying g2.type = some .bool)
    (h : DataW.trod enc P w base spare held fuel t [c0, c1, c2, c3, c4, c5, c6, c7] = some x) :
    ∃ (D S U T : ByteArray) (n : Int) (F G L : List Prm), c0 = .string D ∧ c1 = .string S ∧ c2 = .string U ∧ c3 = .string T ∧ c4 = .int .i64 n ∧ (Lit.int .i64 n).wf = true ∧ RPrms w c5 F ∧ RPrms w c6 G ∧ RPrms w c7 L ∧ D.size + S.size + U.size + T.size ≤ Rows.uptoBulk x.1 ∧
      (∀ p ∈ F, p.name.length ≤ Rows.uptoBulk x.1 ∧ p.value.length ≤ Rows.uptoBulk x.1) ∧ (∀ p ∈ G, p.name.length ≤ Rows.uptoBulk x.1 ∧ p.value.length ≤ Rows.uptoBulk x.1) ∧ (∀ p ∈ L, p.name.length ≤ Rows.uptoBulk x.1 ∧ p.value.length ≤ Rows.uptoBulk x.1) ∧
      F.length ≤ Rows.uptoBulk x.1 ∧ G.length ≤ Rows.uptoBulk x.1 ∧ L.length ≤ Rows.uptoBulk x.1 ∧ U.size ≤ Rows.uptoBulk x.1 := by
  obtain ⟨xs, n, _, hx, hl, hlen, hf⟩ := DataW.trod_struct hA h
  obtain ⟨o0, z0, o1, z1, o2, z2⟩ := oa
  have q0 := hf 0 a0 rfl
  have q1 := hf 1 a1 rfl
  have q2 := hf 2 a2 rfl
  clear hf
  match xs, hlen with
  | [y0, y1, y2], _ =>
    replace q0 : DataW.trod enc P w base spare held n a0.type [c0] = some y0 := by simpa [o0, z0] using q0
    replace q1 : DataW.trod enc P w base spare held n a1.type [c1, c2, c3, c4, c5, c6] = some y1 := by simpa [o1, z1] using q1
    replace q2 : DataW.trod enc P w base spare held n a2.type [c7] = some y2 := by simpa [o2, z2] using q2
    obtain ⟨D, e0, rfl, _⟩ := DataW.trod_string r0 q0
    obtain ⟨S, U, T, m, F, G, b0, b1, b2, b3, hw, hF, hG, bz, bF, bG, lF, lG⟩ := open_uriL hs hone h0 h1 h2 h3 h4 h5 he hone' hC' k0 k1 k2 q1
    obtain ⟨L, hL, bL, lL⟩ := open_prms r2 he hone' hC' k0 k1 k2 q2
    simp only [List.cons.injEq, and_true] at e0
    have hd : Rows.uptoBulk x.1 = (D.size + 1) + (Rows.uptoBulk y1.1 + (Rows.uptoBulk y2.1 + 0)) + 1 := by
      rw [hx]
      simp only [List.map_cons, List.map_nil, Rows.uptoBulk, Rows.uptoBulkAll, Array.length_toList]; rfl
    refine ⟨D, S, U, T, m, F, G, L, e0, b0, b1, b2, b3, hw, hF, hG, hL, by rw [hd]; omega, fun p hp => ?_, fun p hp => ?_, fun p hp => ?_, by rw [hd]; omega, by rw [hd]; omega, by rw [hd]; omega, by rw [hd]; omega⟩
    · have := bF p hp
      rw [hd]; omega
    · have := bG p hp
      rw [hd]; omega
    · have := bL p hp
      rw [hd]; omega
theorem open_addrsL {t te : TypeId} {a0 a1 a2 : Field} {f0 f1 f2 f3 f4 f5 : Field} {v : Value} {x : DataW H × List MemPlace} {fuel : Nat} {e : TypeId} {g0 g1 g2 : Field} (ht : P.underlying t = some (.slice te)) (hA : P.underlying te = some (.struct #[a0, a1, a2])) (hC : P.cellsOf te = 8)
    (oa : a0.offset = 0 ∧ P.cellsOf a0.type = 1 ∧ a1.offset = 1 ∧ P.cellsOf a1.type = 6 ∧ a2.offset = 7 ∧ P.cellsOf a2.type = 1) (r0 : P.underlying a0.type = some .string) (r2 : P.underlying a2.type = some (.slice e))
    (hs : P.underlying a1.type = some (.struct #[f0, f1, f2, f3, f4, f5])) (hone : oneCellFields P #[f0, f1, f2, f3, f4, f5] = true)
    (h0 : P.underlying f0.type = some .string) (h1 : P.underlying f1.type = some .string) (h2 : P.underlying f2.type = some .string) (h3 : P.underlying f3.type = some (.int .i64)) (h4 : P.underlying f4.type = some (.slice e)) (h5 : P.underlying f5.type = some (.slice e))
    (he : P.underlying e = some (.struct #[g0, g1, g2])) (hone' : oneCellFields P #[g0, g1, g2] = true) (hC' : P.cellsOf e = 3) (k0 : P.underlying g0.type = some .string) (k1 : P.underlying g1.type = some .string) (k2 : P.underlying g2.type = some .bool)
    (hf : DataW.trod enc P w base spare held fuel t [v] = some x) :
    ∃ L, RAdrs w v L ∧ ∀ a ∈ L, AdrBdL (Rows.uptoBulk x.1) a := by
  rcases open_slice ht hf with ⟨hcs, hx⟩ | ⟨a, len0, cap0, m, n, D, Pl, hcs, hb, hl, hm, hmm, hx, hi⟩
  · simp only [List.cons.injEq, and_true] at hcs
    subst hcs
    exact ⟨[], .inl ⟨⟨_, _, rfl⟩, rfl⟩, fun p hp => by simp at hp⟩
  · simp only [List.cons.injEq, and_true] at hcs
    subst hcs
    have hlm : len0 ≤ m := by rw [hmm]; split <;> omega
    have each : ∀ i, i < m → ∃ (q : Adr), w.cell? (a.add (i * 8)) = some (sv q.disp) ∧ w.cell? (a.add (i * 8 + 1)) = some (sv q.uri.scheme) ∧ w.cell? (a.add (i * 8 + 2)) = some (sv q.uri.user) ∧ w.cell? (a.add (i * 8 + 3)) = some (sv q.uri.host) ∧ w.cell? (a.add (i * 8 + 4)) = some (.int .i64 q.uri.port) ∧
        (∃ u1 u2 u3, w.cell? (a.add (i * 8 + 5)) = some u1 ∧ w.cell? (a.add (i * 8 + 6)) = some u2 ∧ w.cell? (a.add (i * 8 + 7)) = some u3 ∧ RPrms w u1 q.uri.ps ∧ RPrms w u2 q.uri.hs ∧ RPrms w u3 q.ps) ∧ AdrBdL (Rows.uptoBulk (D i)) q := by
      intro i him
      obtain ⟨cs', hc, ht'⟩ := hi i him
      rw [hC] at hc
      obtain ⟨_, hcl, hat⟩ := World.cells?_some hc
      match cs', hcl with
      | [c0, c1, c2, c3, c4, c5, c6, c7], _ =>
        have hcell : ∀ j, j < 8 → w.cell? (a.add (i * 8 + j)) = [c0, c1, c2, c3, c4, c5, c6, c7][j]? := fun j hj => by
          have := hat j hj
          rwa [add_add] at this
        obtain ⟨D0, S, U, T, n0, F, G, L, rfl, rfl, rfl, rfl, rfl, hw, g6, g7, g8, g9, g10, g11, g12, g13, g14, g15, g16⟩ := open_adrL hA oa r0 r2 hs hone h0 h1 h2 h3 h4 h5 he hone' hC' k0 k1 k2 ht'
        dsimp only at g9 g10 g11 g12 g13 g14 g15
        refine ⟨⟨us D0, ⟨us S, us U, us T, n0, F, G⟩, L⟩, ?_, ?_, ?_, ?_, hcell 4 (by decide), ⟨c5, c6, c7, hcell 5 (by decide), hcell 6 (by decide), hcell 7 (by decide), g6, g7, g8⟩, ⟨⟨?_, ?_, ?_, ?_⟩, i64_of_wfA hw, g10, g11, g12, g13, g14, g15⟩⟩
        · unfold sv; rw [bs_us]; exact hcell 0 (by decide)
        · unfold sv; rw [bs_us]; exact hcell 1 (by decide)
        · unfold sv; rw [bs_us]; exact hcell 2 (by decide)
        · unfold sv; rw [bs_us]; exact hcell 3 (by decide)
        all_goals
          dsimp only
          rw [length_us]; omega
    have hx1 := congrArg Prod.fst hx
    dsimp only at hx1
    rw [hx1]
    rcases Nat.eq_zero_or_pos len0 with hz | hz
    · subst hz
      exact ⟨[], .inl ⟨⟨_, _, rfl⟩, rfl⟩, fun p hp => by simp at hp⟩
    · obtain ⟨L, hL, hLP⟩ := list_of_eachA _ len0 (fun i hi => each i (by omega))
      obtain ⟨c0, _⟩ := hLP 0 (by omega)
      rw [Nat.zero_mul, show a.add 0 = a from rfl] at c0
      obtain ⟨ha, hblt⟩ := addr_of_cell c0
      obtain ⟨ab, ao, asp⟩ := a
      simp only [Addr.mk.injEq, true_and] at ha
      subst ha
      refine ⟨L, .inr ⟨ab, ao, cap0, by rw [hL], by rw [hL]; exact hl, hm, hblt, fun j hj => ?_⟩, ?_⟩
      · obtain ⟨c0, c1, c2, c3, c4, ⟨u1, u2, u3, c5, c6, c7, y1, y2, y3⟩, _⟩ := hLP j hj
        rw [add_at] at c0 c1 c2 c3 c4 c5 c6 c7
        rw [← Nat.add_assoc] at c1 c2 c3 c4 c5 c6 c7
        exact ⟨c0, c1, c2, c3, c4, u1, u2, u3, c5, c6, c7, y1, y2, y3⟩
      · intro q hq
        obtain ⟨i, hi', rfl⟩ := List.getElem_of_mem hq
        obtain ⟨_, _, _, _, _, _, h5⟩ := hLP i hi'
        have h6 := bulk_mem ((List.range len0).map D) (D i) (List.mem_map.2 ⟨i, List.mem_range.2 (by omega), rfl⟩)
        exact h5.mono (by rw [Rows.uptoBulk]; omega)
end

end Go.Proofs.YtipdiddjhimdcaaGreatDoor

namespace Go.Proofs.YtipdiddjhimdcaaGreatDoor
set_option linter.unusedSimpArgs false
set_option linter.unusedVariables false
open Go.ChangeShapes Go.WideShapes Go.ChangeAt Go.RowKit Go.Deep Go.Joins

section
variable {H : Type} {enc : TypeId × Value → H} {w : World} {base : Nat} {spare : Nat → Bool} {held : Bool}
theorem open_strsF {t e : TypeId} {P : Program} {fuel : Nat} {v : Value} {z : DataW H × List MemPlace} (ht : P.underlying t = some (.slice e)) (he : P.underlying e = some .string) (hc : P.cellsOf e = 1)
    (hf : DataW.trod enc P w base spare held fuel t [v] = some z) :
    ∃ L, RStrs w v L ∧ (∀ x ∈ L, x.length + 1 ≤ Rows.uptoBulk z.1) ∧ L.length ≤ Rows.uptoBulk z.1 := by
  rcases open_strings ht he hc hf with ⟨hcs, hx⟩ | ⟨a, len, cap, ss, hcs, _, hl, hm, hz, hx, hcell, hws⟩
  · simp only [List.cons.injEq, and_true] at hcs
    subst hcs
    exact ⟨[], .inl ⟨⟨_, _, rfl⟩, rfl, rfl⟩, ⟨(fun x hx => by simp at hx), Nat.zero_le _⟩⟩
  · simp only [List.cons.injEq, and_true] at hcs
    subst hcs hx
    dsimp only
    have hlen : len ≤ ss.length := by rw [hz]; split <;> omega
    have hLl : ((ss.take len).map us).length = len := by rw [List.length_map, List.length_take]; omega
    have hbulk : ∀ x ∈ (ss.take len).map us, x.length + 1 ≤ Rows.uptoBulk (DataW.slice (strs (H := H) (ss.take len)) (strs (ss.drop len))) := by
      intro x hx
      obtain ⟨s, hs, rfl⟩ := List.mem_map.1 hx
      have hd : (DataW.lit (.string s.data.toList) : DataW H) ∈ strs (ss.take len) := List.mem_map.2 ⟨s, hs, rfl⟩
      have := bulk_mem _ _ hd
      rw [Rows.uptoBulk] at this
      rw [Rows.uptoBulk]
      show s.data.toList.length + 1 ≤ _
      omega
    refine ⟨(ss.take len).map us, ?_, hbulk, ?_⟩
    · rcases Nat.eq_zero_or_pos len with h0 | h0
      · subst h0
        exact .inl ⟨⟨_, _, rfl⟩, by simp, by simp⟩
      · have hc0 := hcell 0 (by omega)
        rw [show a.add 0 = a from rfl] at hc0
        obtain ⟨ha, hb⟩ := addr_of_cell hc0
        obtain ⟨ab, ao, asp⟩ := a
        simp only [Addr.mk.injEq, true_and] at ha
        subst ha
        refine .inr ⟨ab, ao, cap, by rw [hLl], by rw [hLl]; exact hl, hm, hb, fun j u hj => ?_⟩
        have hj' : j < len := by have := (List.getElem?_eq_some_iff.1 hj).1; rw [List.length_map, hLl] at this; exact this
        have := hcell j (by omega)
        rw [add_at] at this
        rw [this, ← hj, List.getElem?_map, List.getElem?_map, List.getElem?_take_of_lt hj', List.getElem?_eq_getElem (by omega)]
        simp [sv, List.getD_eq_getElem?_getD, List.getElem?_eq_getElem (show j < ss.length by omega)]
    · rw [hLl]
      have hb := bulk_len (strs (H := H) (ss.take len)) (fun d hd => by
        obtain ⟨s, _, rfl⟩ := List.mem_map.1 hd
        rw [Rows.uptoBulk]; omega)
      have hl2 : (strs (H := H) (ss.take len)).length = len := by unfold strs; rw [List.length_map, List.length_take]; omega
      rw [hl2] at hb
      rw [Rows.uptoBulk]; omega
theorem adr18 {fuel : Nat} {x : DataW H × List MemPlace} {c0 c1 c2 c3 c4 c5 c6 c7 : Value} (h : DataW.trod enc Tryz.prog w base spare held fuel 26 [c0, c1, c2, c3, c4, c5, c6, c7] = some x) :
    ∃ (a : Adr) (u1 u2 u3 : Value), [c0, c1, c2, c3, c4, c5, c6, c7] = [.string (bs a.disp), .string (bs a.uri.scheme), .string (bs a.uri.user), .string (bs a.uri.host), .int .i64 a.uri.port, u1, u2, u3] ∧ RPrms w u1 a.uri.ps ∧ RPrms w u2 a.uri.hs ∧ RPrms w u3 a.ps ∧ AdrBdL (Rows.uptoBulk x.1) a := by
  obtain ⟨D, S, U, T, n, F, G, L, rfl, rfl, rfl, rfl, rfl, hw, hF, hG, hL, bz, bF, bG, bL, lF, lG, lL, _⟩ := open_adrL Tryz.underlying26 (by refine ⟨?_, ?_, ?_, ?_, ?_, ?_⟩ <;> kernel_rfl) Tryz.underlying9 Tryz.underlying22 Tryz.underlying24 (by kernel_rfl) Tryz.underlying9 Tryz.underlying9 Tryz.underlying9 Tryz.underlying3 Tryz.underlying22 Tryz.underlying22 Tryz.underlying85 (by kernel_rfl) (by kernel_rfl) Tryz.underlying9 Tryz.underlying9 Tryz.underlying4 h
  refine ⟨⟨us D, ⟨us S, us U, us T, n, F, G⟩, L⟩, c5, c6, c7, by rw [bs_us, bs_us, bs_us, bs_us], hF, hG, hL, ⟨⟨?_, ?_, ?_, ?_⟩, i64_of_wfA hw, bF, bG, bL, lF, lG, lL⟩⟩
  all_goals
    dsimp only
    rw [length_us]; omega
theorem uri18 {fuel : Nat} {x : DataW H × List MemPlace} {c0 c1 c2 c3 c4 c5 : Value} (h : DataW.trod enc Tryz.prog w base spare held fuel 24 [c0, c1, c2, c3, c4, c5] = some x) :
    ∃ (a : Uri) (u1 u2 : Value), [c0, c1, c2, c3, c4, c5] = [.string (bs a.scheme), .string (bs a.user), .string (bs a.host), .int .i64 a.port, u1, u2] ∧ RPrms w u1 a.ps ∧ RPrms w u2 a.hs ∧ (a.scheme.length ≤ Rows.uptoBulk x.1 ∧ a.user.length ≤ Rows.uptoBulk x.1 ∧ a.host.length ≤ Rows.uptoBulk x.1) ∧ (-9223372036854775808 ≤ a.port ∧ a.port ≤ 9223372036854775807) ∧
      (∀ p ∈ a.ps, p.name.length ≤ Rows.uptoBulk x.1 ∧ p.value.length ≤ Rows.uptoBulk x.1) ∧ (∀ p ∈ a.hs, p.name.length ≤ Rows.uptoBulk x.1 ∧ p.value.length ≤ Rows.uptoBulk x.1) ∧ a.ps.length ≤ Rows.uptoBulk x.1 ∧ a.hs.length ≤ Rows.uptoBulk x.1 := by
  obtain ⟨S, U, T, n, F, G, rfl, rfl, rfl, rfl, hw, hF, hG, bz, bF, bG, lF, lG⟩ := open_uriL Tryz.underlying24 (by kernel_rfl) Tryz.underlying9 Tryz.underlying9 Tryz.underlying9 Tryz.underlying3 Tryz.underlying22 Tryz.underlying22 Tryz.underlying85 (by kernel_rfl) (by kernel_rfl) Tryz.underlying9 Tryz.underlying9 Tryz.underlying4 h
  refine ⟨⟨us S, us U, us T, n, F, G⟩, c4, c5, by rw [bs_us, bs_us, bs_us], hF, hG, ⟨?_, ?_, ?_⟩, i64_of_wfA hw, bF, bG, lF, lG⟩
  all_goals
    dsimp only
    rw [length_us]; omega
theorem adrs18 {fuel : Nat} {x : DataW H × List MemPlace} {c : Value} (h : DataW.trod enc Tryz.prog w base spare held fuel 29 [c] = some x) : ∃ L, RAdrs w c L ∧ ∀ a ∈ L, AdrBdL (Rows.uptoBulk x.1) a := open_addrsL Tryz.underlying29 Tryz.underlying26 (by kernel_rfl) (by refine ⟨?_, ?_, ?_, ?_, ?_, ?_⟩ <;> kernel_rfl) Tryz.underlying9 Tryz.underlying22 Tryz.underlying24 (by kernel_rfl) Tryz.underlying9 Tryz.underlying9 Tryz.underlying9 Tryz.underlying3 Tryz.underlying22 Tryz.underlying22 Tryz.underlying85 (by kernel_rfl) (by kernel_rfl) Tryz.underlying9 Tryz.underlying9 Tryz.underlying4 h
theorem strs18 {fuel : Nat} {x : DataW H × List MemPlace} {c : Value} (h : DataW.trod enc Tryz.prog w base spare held fuel 30 [c] = some x) : ∃ L, RStrs w c L ∧ (∀ y ∈ L, y.length ≤ Rows.uptoBulk x.1) ∧ L.length ≤ Rows.uptoBulk x.1 := by
  obtain ⟨L, h1, h2, h3⟩ := open_strsF Tryz.underlying30 Tryz.underlying9 (by kernel_rfl) h
  exact ⟨L, h1, fun y hy => by have := h2 y hy; omega, h3⟩

theorem list_more {α : Type} {l : List α} {n : Nat} (h : l.length = n + 1) : ∃ a t, l = a :: t ∧ t.length = n := by
  cases l with
  | nil => cases h
  | cons a t => exact ⟨a, t, rfl, by simpa using h⟩
def DlgBd (B : Nat) (d : Dlg) : Prop := AdrBdL B d.loc ∧ AdrBdL B d.rem ∧ d.tgt.host.length ≤ B ∧ (-9223372036854775808 ≤ d.tgt.port ∧ d.tgt.port ≤ 9223372036854775807) ∧ (∀ x ∈ d.routes, x.length ≤ B) ∧ d.routes.length ≤ B ∧ (-9223372036854775808 ≤ d.lin ∧ d.lin ≤ 9223372036854775807) ∧ (-9223372036854775808 ≤ d.lout ∧ d.lout ≤ 9223372036854775807)
def RqBd (B : Nat) (r : Rq) : Prop := AdrBdL B r.fr ∧ AdrBdL B r.dst ∧ (∀ a ∈ r.contact, AdrBdL B a) ∧ (∀ x ∈ r.routes, x.length ≤ B) ∧ r.routes.length ≤ B ∧ r.toT.length ≤ B ∧ r.fromT.length ≤ B ∧ r.call.length ≤ B
theorem DlgBd.mono {B B' : Nat} {d : Dlg} (h : DlgBd B d) (hB : B ≤ B') : DlgBd B' d := by
  obtain ⟨h1, h2, h3, h4, h5, h6, h7, h8⟩ := h
  exact ⟨h1.mono hB, h2.mono hB, by omega, h4, fun x hx => by have := h5 x hx; omega, by omega, h7, h8⟩
theorem RqBd.mono {B B' : Nat} {r : Rq} (h : RqBd B r) (hB : B ≤ B') : RqBd B' r := by
  obtain ⟨h1, h2, h3, h4, h5, h6, h7, h8⟩ := h
  exact ⟨h1.mono hB, h2.mono hB, fun a ha => (h3 a ha).mono hB, fun x hx => by have := h4 x hx; omega, by omega, by omega, by omega, by omega⟩

theorem array26 {α : Type} {cs : Array α} (h : cs.size = 26) : ∃ c0 c1 c2 c3 c4 c5 c6 c7 c8 c9 c10 c11 c12 c13 c14 c15 c16 c17 c18 c19 c20 c21 c22 c23 c24 c25, cs = #[c0, c1, c2, c3, c4, c5, c6, c7, c8, c9, c10, c11, c12, c13, c14, c15, c16, c17, c18, c19, c20, c21, c22, c23, c24, c25] := by
  obtain ⟨l⟩ := cs
  replace h : l.length = 26 := h
  obtain ⟨c0, l1, rfl, h1⟩ := list_more h
  obtain ⟨c1, l2, rfl, h2⟩ := list_more h1
  obtain ⟨c2, l3, rfl, h3⟩ := list_more h2
  obtain ⟨c3, l4, rfl, h4⟩ := list_more h3
  obtain ⟨c4, l5, rfl, h5⟩ := list_more h4
  obtain ⟨c5, l6, rfl, h6⟩ := list_more h5
  obtain ⟨c6, l7, rfl, h7⟩ := list_more h6
  obtain ⟨c7, l8, rfl, h8⟩ := list_more h7
  obtain ⟨c8, l9, rfl, h9⟩ := list_more h8
  obtain ⟨c9, l10, rfl, h10⟩ := list_more h9
  obtain ⟨c10, l11, rfl, h11⟩ := list_more h10
  obtain ⟨c11, l12, rfl, h12⟩ := list_more h11
  obtain ⟨c12, l13, rfl, h13⟩ := list_more h12
  obtain ⟨c13, l14, rfl, h14⟩ := list_more h13
  obtain ⟨c14, l15, rfl, h15⟩ := list_more h14
  obtain ⟨c15, l16, rfl, h16⟩ := list_more h15
  obtain ⟨c16, l17, rfl, h17⟩ := list_more h16
  obtain ⟨c17, l18, rfl, h18⟩ := list_more h17
  obtain ⟨c18, l19, rfl, h19⟩ := list_more h18
  obtain ⟨c19, l20, rfl, h20⟩ := list_more h19
  obtain ⟨c20, l21, rfl, h21⟩ := list_more h20
  obtain ⟨c21, l22, rfl, h22⟩ := list_more h21
  obtain ⟨c22, l23, rfl, h23⟩ := list_more h22
  obtain ⟨c23, l24, rfl, h24⟩ := list_more h23
  obtain ⟨c24, l25, rfl, h25⟩ := list_more h24
  obtain ⟨c25, l26, rfl, h26⟩ := list_more h25
  obtain rfl := List.length_eq_zero_iff.1 h26
  exact ⟨c0, c1, c2, c3, c4, c5, c6, c7, c8, c9, c10, c11, c12, c13, c14, c15, c16, c17, c18, c19, c20, c21, c22, c23, c24, c25, rfl⟩
set_option maxRecDepth 100000 in
set_option maxHeartbeats 3200000 in
theorem open_dlg {v : Value} {d : DataW H} {p : List MemPlace} {r : Reach} {b0 : Nat} (hv : Value.okWide Tryz.prog w r b0 34 v) (h : DataW.Trod enc Tryz.prog w base spare held 34 v d p) :
    ∃ (vs : Array Value) (D : Dlg), v = .agg vs ∧ RDlg w (.agg vs) D ∧ DlgBd (Rows.uptoBulk d) D := by
  have hA := Tryz.underlying34
  obtain ⟨cs, rfl, hsz⟩ := okWide_struct hA hv
  obtain ⟨c0, c1, c2, c3, c4, c5, c6, c7, c8, c9, c10, c11, c12, c13, c14, c15, c16, c17, c18, c19, c20, c21, c22, c23, c24, c25, rfl⟩ := array26 (hsz.trans (by kernel_rfl))
  obtain ⟨fuel, hf⟩ := h
  obtain ⟨xs, n, _, hx, hl, hlen, hf⟩ := DataW.trod_struct hA hf
  have q0 := hf 0 _ rfl
  have q1 := hf 1 _ rfl
  have q2 := hf 2 _ rfl
  have q3 := hf 3 _ rfl
  have q4 := hf 4 _ rfl
  have q5 := hf 5 _ rfl
  have q6 := hf 6 _ rfl
  clear hf
  match xs, hlen with
  | [y0, y1, y2, y3, y4, y5, y6], _ =>
    have s0 : Tryz.prog.cellsOf 9 = 1 := by kernel_rfl
    have s1 : Tryz.prog.cellsOf 26 = 8 := by kernel_rfl
    have s2 : Tryz.prog.cellsOf 24 = 6 := by kernel_rfl
    have s3 : Tryz.prog.cellsOf 30 = 1 := by kernel_rfl
    have s4 : Tryz.prog.cellsOf 3 = 1 := by kernel_rfl
    replace q0 : DataW.trod enc Tryz.prog w base spare held n 9 [c0] = some y0 := by simpa [Value.cells, s0] using q0
    replace q1 : DataW.trod enc Tryz.prog w base spare held n 26 [c1, c2, c3, c4, c5, c6, c7, c8] = some y1 := by simpa [Value.cells, s1] using q1
    replace q2 : DataW.trod enc Tryz.prog w base spare held n 26 [c9, c10, c11, c12, c13, c14, c15, c16] = some y2 := by simpa [Value.cells, s1] using q2
    replace q3 : DataW.trod enc Tryz.prog w base spare held n 24 [c17, c18, c19, c20, c21, c22] = some y3 := by simpa [Value.cells, s2] using q3
    replace q4 : DataW.trod enc Tryz.prog w base spare held n 30 [c23] = some y4 := by simpa [Value.cells, s3] using q4
    replace q5 : DataW.trod enc Tryz.prog w base spare held n 3 [c24] = some y5 := by simpa [Value.cells, s4] using q5
    replace q6 : DataW.trod enc Tryz.prog w base spare held n 3 [c25] = some y6 := by simpa [Value.cells, s4] using q6
    obtain ⟨S0, e0, _, _⟩ := DataW.trod_string Tryz.underlying9 q0
    obtain ⟨a1, u1, u2, u3, e1, r1, r2, r3, b1⟩ := adr18 q1
    obtain ⟨a2, u4, u5, u6, e2, r4, r5, r6, b2⟩ := adr18 q2
    obtain ⟨a3, u7, u8, e3, r7, r8, b3⟩ := uri18 q3
    obtain ⟨L, r9, b4, b4'⟩ := strs18 q4
    obtain ⟨n5, e5, _, w5⟩ := DataW.trod_int Tryz.underlying3 q5
    obtain ⟨n6, e6, _, w6⟩ := DataW.trod_int Tryz.underlying3 q6
    simp only [List.cons.injEq, and_true] at e0 e1 e2 e3 e5 e6
    obtain ⟨rfl, rfl, rfl, rfl, rfl, rfl, rfl, rfl⟩ := e1
    obtain ⟨rfl, rfl, rfl, rfl, rfl, rfl, rfl, rfl⟩ := e2
    obtain ⟨rfl, rfl, rfl, rfl, rfl, rfl⟩ := e3
    subst e0 e5 e6
    have hd : Rows.uptoBulk d = Rows.uptoBulk y0.1 + (Rows.uptoBulk y1.1 + (Rows.uptoBulk y2.1 + (Rows.uptoBulk y3.1 + (Rows.uptoBulk y4.1 + (Rows.uptoBulk y5.1 + (Rows.uptoBulk y6.1 + 0)))))) + 1 := by
      rw [show d = (DataW.agg ([y0, y1, y2, y3, y4, y5, y6].map (·.1))) from congrArg Prod.fst hx]
      simp only [List.map_cons, List.map_nil, Rows.uptoBulk, Rows.uptoBulkAll]
    refine ⟨_, ⟨us S0, a1, a2, a3, L, n5, n6⟩, rfl, ⟨c6, c7, c8, c14, c15, c16, c21, c22, c23, by rw [bs_us], r1, r2, r3, r4, r5, r6, r7, r8, r9⟩, b1.mono (by omega), b2.mono (by omega), ?_, b3.2.1, ?_, by dsimp only; omega, i64_of_wfA w5, i64_of_wfA w6⟩
    · have := b3.1.2.2; dsimp only; omega
    · intro x hx; have := b4 x hx; omega

theorem array38 {α : Type} {cs : Array α} (h : cs.size = 38) : ∃ c0 c1 c2 c3 c4 c5 c6 c7 c8 c9 c10 c11 c12 c13 c14 c15 c16 c17 c18 c19 c20 c21 c22 c23 c24 c25 c26 c27 c28 c29 c30 c31 c32 c33 c34 c35 c36 c37, cs = #[c0, c1, c2, c3, c4, c5, c6, c7, c8, c9, c10, c11, c12, c13, c14, c15, c16, c17, c18, c19, c20, c21, c22, c23, c24, c25, c26, c27, c28, c29, c30, c31, c32, c33, c34, c35, c36, c37] := by
  obtain ⟨l⟩ := cs
  replace h : l.length = 38 := h
  obtain ⟨c0, l1, rfl, h1⟩ := list_more h
  obtain ⟨c1, l2, rfl, h2⟩ := list_more h1
  obtain ⟨c2, l3, rfl, h3⟩ := list_more h2
  obtain ⟨c3, l4, rfl, h4⟩ := list_more h3
  obtain ⟨c4, l5, rfl, h5⟩ := list_more h4
  obtain ⟨c5, l6, rfl, h6⟩ := list_more h5
  obtain ⟨c6, l7, rfl, h7⟩ := list_more h6
  obtain ⟨c7, l8, rfl, h8⟩ := list_more h7
  obtain ⟨c8, l9, rfl, h9⟩ := list_more h8
  obtain ⟨c9, l10, rfl, h10⟩ := list_more h9
  obtain ⟨c10, l11, rfl, h11⟩ := list_more h10
  obtain ⟨c11, l12, rfl, h12⟩ := list_more h11
  obtain ⟨c12, l13, rfl, h13⟩ := list_more h12
  obtain ⟨c13, l14, rfl, h14⟩ := list_more h13
  obtain ⟨c14, l15, rfl, h15⟩ := list_more h14
  obtain ⟨c15, l16, rfl, h16⟩ := list_more h15
  obtain ⟨c16, l17, rfl, h17⟩ := list_more h16
  obtain ⟨c17, l18, rfl, h18⟩ := list_more h17
  obtain ⟨c18, l19, rfl, h19⟩ := list_more h18
  obtain ⟨c19, l20, rfl, h20⟩ := list_more h19
  obtain ⟨c20, l21, rfl, h21⟩ := list_more h20
  obtain ⟨c21, l22, rfl, h22⟩ := list_more h21
  obtain ⟨c22, l23, rfl, h23⟩ := list_more h22
  obtain ⟨c23, l24, rfl, h24⟩ := list_more h23
  obtain ⟨c24, l25, rfl, h25⟩ := list_more h24
  obtain ⟨c25, l26, rfl, h26⟩ := list_more h25
  obtain ⟨c26, l27, rfl, h27⟩ := list_more h26
  obtain ⟨c27, l28, rfl, h28⟩ := list_more h27
  obtain ⟨c28, l29, rfl, h29⟩ := list_more h28
  obtain ⟨c29, l30, rfl, h30⟩ := list_more h29
  obtain ⟨c30, l31, rfl, h31⟩ := list_more h30
  obtain ⟨c31, l32, rfl, h32⟩ := list_more h31
  obtain ⟨c32, l33, rfl, h33⟩ := list_more h32
  obtain ⟨c33, l34, rfl, h34⟩ := list_more h33
  obtain ⟨c34, l35, rfl, h35⟩ := list_more h34
  obtain ⟨c35, l36, rfl, h36⟩ := list_more h35
  obtain ⟨c36, l37, rfl, h37⟩ := list_more h36
  obtain ⟨c37, l38, rfl, h38⟩ := list_more h37
  obtain rfl := List.length_eq_zero_iff.1 h38
  exact ⟨c0, c1, c2, c3, c4, c5, c6, c7, c8, c9, c10, c11, c12, c13, c14, c15, c16, c17, c18, c19, c20, c21, c22, c23, c24, c25, c26, c27, c28, c29, c30, c31, c32, c33, c34, c35, c36, c37, rfl⟩
set_option maxRecDepth 100000 in
set_option maxHeartbeats 3200000 in
theorem open_req {v : Value} {d : DataW H} {p : List MemPlace} {r : Reach} {b0 : Nat} (hv : Value.okWide Tryz.prog w r b0 32 v) (h : DataW.Trod enc Tryz.prog w base spare held 32 v d p) :
    ∃ (vs : Array Value) (R : Rq), v = .agg vs ∧ RReq w (.agg vs) R ∧ RqBd (Rows.uptoBulk d) R := by
  have hA := Tryz.underlying32
  obtain ⟨cs, rfl, hsz⟩ := okWide_struct hA hv
  obtain ⟨c0, c1, c2, c3, c4, c5, c6, c7, c8, c9, c10, c11, c12, c13, c14, c15, c16, c17, c18, c19, c20, c21, c22, c23, c24, c25, c26, c27, c28, c29, c30, c31, c32, c33, c34, c35, c36, c37, rfl⟩ := array38 (hsz.trans (by kernel_rfl))
  obtain ⟨fuel, hf⟩ := h
  obtain ⟨xs, n, _, hx, hl, hlen, hf⟩ := DataW.trod_struct hA hf
  have q0 := hf 0 _ rfl
  have q1 := hf 1 _ rfl
  have q2 := hf 2 _ rfl
  have q3 := hf 3 _ rfl
  have q4 := hf 4 _ rfl
  have q5 := hf 5 _ rfl
  have q6 := hf 6 _ rfl
  have q7 := hf 7 _ rfl
  have q8 := hf 8 _ rfl
  have q9 := hf 9 _ rfl
  have q10 := hf 10 _ rfl
  have q11 := hf 11 _ rfl
  have q12 := hf 12 _ rfl
  have q13 := hf 13 _ rfl
  have q14 := hf 14 _ rfl
  have q15 := hf 15 _ rfl
  have q16 := hf 16 _ rfl
  have q17 := hf 17 _ rfl
  clear hf
  match xs, hlen with
  | [y0, y1, y2, y3, y4, y5, y6, y7, y8, y9, y10, y11, y12, y13, y14, y15, y16, y17], _ =>
    have s0 : Tryz.prog.cellsOf 9 = 1 := by kernel_rfl
    have s1 : Tryz.prog.cellsOf 24 = 6 := by kernel_rfl
    have s2 : Tryz.prog.cellsOf 26 = 8 := by kernel_rfl
    have s3 : Tryz.prog.cellsOf 3 = 1 := by kernel_rfl
    have s4 : Tryz.prog.cellsOf 28 = 2 := by kernel_rfl
    have s5 : Tryz.prog.cellsOf 29 = 1 := by kernel_rfl
    have s6 : Tryz.prog.cellsOf 30 = 1 := by kernel_rfl
    replace q0 : DataW.trod enc Tryz.prog w base spare held n 9 [c0] = some y0 := by simpa [Value.cells, s0] using q0
    replace q1 : DataW.trod enc Tryz.prog w base spare held n 24 [c1, c2, c3, c4, c5, c6] = some y1 := by simpa [Value.cells, s1] using q1
    replace q2 : DataW.trod enc Tryz.prog w base spare held n 9 [c7] = some y2 := by simpa [Value.cells, s0] using q2
    replace q3 : DataW.trod enc Tryz.prog w base spare held n 9 [c8] = some y3 := by simpa [Value.cells, s0] using q3
    replace q4 : DataW.trod enc Tryz.prog w base spare held n 26 [c9, c10, c11, c12, c13, c14, c15, c16] = some y4 := by simpa [Value.cells, s2] using q4
    replace q5 : DataW.trod enc Tryz.prog w base spare held n 26 [c17, c18, c19, c20, c21, c22, c23, c24] = some y5 := by simpa [Value.cells, s2] using q5
    replace q6 : DataW.trod enc Tryz.prog w base spare held n 9 [c25] = some y6 := by simpa [Value.cells, s0] using q6
    replace q7 : DataW.trod enc Tryz.prog w base spare held n 9 [c26] = some y7 := by simpa [Value.cells, s0] using q7
    replace q8 : DataW.trod enc Tryz.prog w base spare held n 9 [c27] = some y8 := by simpa [Value.cells, s0] using q8
    replace q9 : DataW.trod enc Tryz.prog w base spare held n 3 [c28] = some y9 := by simpa [Value.cells, s3] using q9
    replace q10 : DataW.trod enc Tryz.prog w base spare held n 3 [c29] = some y10 := by simpa [Value.cells, s3] using q10
    replace q11 : DataW.trod enc Tryz.prog w base spare held n 28 [c30, c31] = some y11 := by simpa [Value.cells, s4] using q11
    replace q12 : DataW.trod enc Tryz.prog w base spare held n 29 [c32] = some y12 := by simpa [Value.cells, s5] using q12
    replace q13 : DataW.trod enc Tryz.prog w base spare held n 30 [c33] = some y13 := by simpa [Value.cells, s6] using q13
    replace q14 : DataW.trod enc Tryz.prog w base spare held n 30 [c34] = some y14 := by simpa [Value.cells, s6] using q14
    replace q15 : DataW.trod enc Tryz.prog w base spare held n 9 [c35] = some y15 := by simpa [Value.cells, s0] using q15
    replace q16 : DataW.trod enc Tryz.prog w base spare held n 9 [c36] = some y16 := by simpa [Value.cells, s0] using q16
    replace q17 : DataW.trod enc Tryz.prog w base spare held n 9 [c37] = some y17 := by simpa [Value.cells, s0] using q17
    obtain ⟨a1, u1, u2, u3, e1, r1, r2, r3, b1⟩ := adr18 q4
    obtain ⟨a2, u4, u5, u6, e2, r4, r5, r6, b2⟩ := adr18 q5
    obtain ⟨S6, e6, z6, _⟩ := DataW.trod_string Tryz.underlying9 q6
    obtain ⟨S7, e7, z7, _⟩ := DataW.trod_string Tryz.underlying9 q7
    obtain ⟨S8, e8, z8, _⟩ := DataW.trod_string Tryz.underlying9 q8
    obtain ⟨n9, e9, _, _⟩ := DataW.trod_int Tryz.underlying3 q9
    obtain ⟨LA, r7, b7⟩ := adrs18 q12
    obtain ⟨LR, r8, b8, b8'⟩ := strs18 q13
    clear q0 q1 q2 q3 q10 q11 q14 q15 q16 q17
    simp only [List.cons.injEq, and_true] at e1 e2 e6 e7 e8 e9
    obtain ⟨rfl, rfl, rfl, rfl, rfl, rfl, rfl, rfl⟩ := e1
    obtain ⟨rfl, rfl, rfl, rfl, rfl, rfl, rfl, rfl⟩ := e2
    subst e6 e7 e8 e9
    have hd : Rows.uptoBulk d = Rows.uptoBulk y0.1 + (Rows.uptoBulk y1.1 + (Rows.uptoBulk y2.1 + (Rows.uptoBulk y3.1 + (Rows.uptoBulk y4.1 + (Rows.uptoBulk y5.1 + (Rows.uptoBulk y6.1 + (Rows.uptoBulk y7.1 + (Rows.uptoBulk y8.1 + (Rows.uptoBulk y9.1 + (Rows.uptoBulk y10.1 + (Rows.uptoBulk y11.1 + (Rows.uptoBulk y12.1 + (Rows.uptoBulk y13.1 + (Rows.uptoBulk y14.1 + (Rows.uptoBulk y15.1 + (Rows.uptoBulk y16.1 + (Rows.uptoBulk y17.1 + 0))))))))))))))))) + 1 := by
      rw [show d = (DataW.agg ([y0, y1, y2, y3, y4, y5, y6, y7, y8, y9, y10, y11, y12, y13, y14, y15, y16, y17].map (·.1))) from congrArg Prod.fst hx]
      simp only [List.map_cons, List.map_nil, Rows.uptoBulk, Rows.uptoBulkAll]
    have t6 : Rows.uptoBulk y6.1 = S6.size + 1 := by rw [z6]; simp only [Rows.uptoBulk, Array.length_toList]; rfl
    have t7 : Rows.uptoBulk y7.1 = S7.size + 1 := by rw [z7]; simp only [Rows.uptoBulk, Array.length_toList]; rfl
    have t8 : Rows.uptoBulk y8.1 = S8.size + 1 := by rw [z8]; simp only [Rows.uptoBulk, Array.length_toList]; rfl
    refine ⟨_, ⟨a1, a2, us S6, us S7, us S8, n9, LA, LR⟩, rfl, ⟨c0, c1, c2, c3, c4, c5, c6, c7, c8, c29, c30, c31, c34, c35, c36, c37, c14, c15, c16, c22, c23, c24, c32, c33, by rw [bs_us, bs_us, bs_us], r1, r2, r3, r4, r5, r6, r7, r8⟩, b1.mono (by omega), b2.mono (by omega), fun a ha => (b7 a ha).mono (by omega), ?_, by dsimp only; omega, ?_, ?_, ?_⟩
    · intro x hx; have := b8 x hx; omega
    all_goals
      dsimp only
      rw [length_us]; omega
end

end Go.Proofs.YtipdiddjhimdcaaGreatDoor

