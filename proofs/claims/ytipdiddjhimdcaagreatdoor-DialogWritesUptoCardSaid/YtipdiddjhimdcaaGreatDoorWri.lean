/- Contracts of Go functions, and plain laws. No condition but those told. -/
import Derived.Test.YtipdiddjhimdcaaGreatDoorWhq
import Derived.Deep.QuietTactic
set_option linter.unusedSimpArgs false
set_option linter.unusedVariables false
set_option maxRecDepth 100000
namespace Go.Proofs.YtipdiddjhimdcaaGreatDoor
open Go.RowKit Go.Sort
def wB (k : Nat) : Nat := 4194304 + 2097154 * k
theorem wB_le {k : Nat} (h : k ≤ 2097152) : wB k ≤ 4611686018427387904 := by unfold wB; omega
theorem wB_s (k : Nat) : wB (k + 1) = wB k + 2097154 := by unfold wB; omega
theorem dlgN_of {d : Dlg} (h : DlgBdW 1048576 d) : DlgN d := by
 obtain ⟨⟨⟨⟨a1, a2, a3, a4⟩, a5, a6, a7, a8, a9, a10, a11⟩, ⟨⟨b1, b2, b3, b4⟩, b5, b6, b7, b8, b9, b10, b11⟩, t1, t2, r1, r2, _, _⟩, t3, t4, t5, t6, t7, t8⟩ := h
 refine ⟨⟨⟨by omega, by omega, by omega, fun p hp => ?_, fun p hp => ?_, fun p hp => ?_, by omega, by omega, by omega⟩, a5.1, a5.2⟩, ⟨⟨by omega, by omega, by omega, fun p hp => ?_, fun p hp => ?_, fun p hp => ?_, by omega, by omega, by omega⟩, b5.1, b5.2⟩, ⟨by omega, by omega, t2.1, t2.2, fun p hp => ?_, fun p hp => ?_⟩, by omega, fun x hx => ?_, r2⟩
 ·have := a6 p hp; omega
 ·have := a7 p hp; omega
 ·have := a8 p hp; omega
 ·have := b6 p hp; omega
 ·have := b7 p hp; omega
 ·have := b8 p hp; omega
 ·have := t4 p hp; omega
 ·have := t5 p hp; omega
 ·have := r1 x hx; omega
set_option maxHeartbeats 12800000 in
theorem dialogWrites_walk (vs : Array Value) (D : Dlg) (bD : DlgBdW 1048576 D) (HO : ByteArray) (lH : HO.size ≤ 1048576) (BR : ByteArray) (lB : BR.size ≤ 1048576) (u : Value) (M : List Hdr) (hMb : ∀ h ∈ M, h.name.length ≤ 1048576 ∧ h.value.length ≤ 1048576) (hMl : M.length ≤ 1048576) (BO : ByteArray) (lO : BO.size ≤ 1048576) (w : World) (hm : Ml w) (hD : RDlg w (.agg vs) D) (hu : RHdrs w u M) :
  Calls Tryz.prog 8 #[.agg vs, .string HO, .string BR, u, .string BO] w fun e w' => e = .returned (.bool true) ∧ Below w.heap.size w w' := by
 have HM := κ hm
 have HAW := κ (fun wx hx => awake18_c wx hx)
 obtain ⟨vs', ev, d26, _, _, _, hD⟩ := hD.row
 injection ev with ev
 subst ev
 have hN := dlgN_of bD
 have HNT := κ (fun (wx : World) (h : Below w.heap.size w wx) => notify_c vs HO BR BO u M D wx (hm.below h) (hD.below h (ρ _)) (hu.below h (ρ _)) hN (by omega) (by omega) (by omega) (fun h hh => by have := hMb h hh; omega) (by omega))
 have HNR := κ (fun (wx : World) (h : Below w.heap.size w wx) => notifyR_c vs HO BR BO u M D wx (hm.below h) (hD.below h (ρ _)) (hu.below h (ρ _)) hN (by omega) (by omega) (by omega) (fun h hh => by have := hMb h hh; omega) (by omega))
 have HWH := κ (fun (wx : World) (h : Below w.heap.size w wx) => whereD_c (.agg vs) D wx (hm.below h) (hD.below h (ρ _)) (by have := bD.1.2.2.1; omega) bD.1.2.2.2.1.1 bD.1.2.2.2.1.2 (fun x hx => by have := bD.1.2.2.2.2.1 x hx; omega) (fun x _ h => route_bd x h))
 have HWR := κ (fun (wx : World) (h : Below w.heap.size w wx) => whereDR_c (.agg vs) D wx (hD.below h (ρ _)) (by have := bD.1.2.2.1; omega) bD.1.2.2.2.1.1 bD.1.2.2.2.1.2 (fun x hx => by have := bD.1.2.2.2.2.1 x hx; omega) (fun x _ h => route_bd x h))
 obtain ⟨e1, y1, e2, y2, e3, y3, e4, y4, e5, y5, e6, y6, e7, y7, e8, y8, e9, y9, ers, h1, h2, h3, h4, h5, h6, h7, h8, h9⟩ := hD.lit
 injection ers with hvs
 have HF1 := κ (fun (wx : World) (h : Below w.heap.size w wx) => few_c (bs D.loc.disp) (bs D.loc.uri.scheme) (bs D.loc.uri.user) (bs D.loc.uri.host) D.loc.uri.port _ _ _ D.loc.uri.ps D.loc.uri.hs D.loc.ps wx (h1.below h (ρ _)) (h2.below h (ρ _)) (h3.below h (ρ _)))
 have HF2 := κ (fun (wx : World) (h : Below w.heap.size w wx) => few_c (bs D.rem.disp) (bs D.rem.uri.scheme) (bs D.rem.uri.user) (bs D.rem.uri.host) D.rem.uri.port _ _ _ D.rem.uri.ps D.rem.uri.hs D.rem.ps wx (h4.below h (ρ _)) (h5.below h (ρ _)) (h6.below h (ρ _)))
 have HF3 := κ (fun (wx : World) (h : Below w.heap.size w wx) => few_c ⟨#[]⟩ (bs D.tgt.scheme) (bs D.tgt.user) (bs D.tgt.host) D.tgt.port _ _ (.slice none 0 0) D.tgt.ps D.tgt.hs [] wx (h7.below h (ρ _)) (h8.below h (ρ _)) (RPrms.emp wx))
 obtain ⟨f1, hf1⟩ : ∃ b, b = (decide (D.loc.ps.length ≤ 60) && decide (D.loc.uri.ps.length ≤ 60) && decide (D.loc.uri.hs.length ≤ 60)) := ⟨_, rfl⟩
 obtain ⟨f2, hf2⟩ : ∃ b, b = (decide (D.rem.ps.length ≤ 60) && decide (D.rem.uri.ps.length ≤ 60) && decide (D.rem.uri.hs.length ≤ 60)) := ⟨_, rfl⟩
 obtain ⟨f3, hf3⟩ : ∃ b, b = (decide (([] : List Prm).length ≤ 60) && decide (D.tgt.ps.length ≤ 60) && decide (D.tgt.hs.length ≤ 60)) := ⟨_, rfl⟩
 rw [← hf1] at HF1
 rw [← hf2] at HF2
 rw [← hf3] at HF3
 clear hf1 hf2 hf3
 have HX := κ (fun (wx : World) (h : Blk wx w.heap.size 34 vs) => (show wx.cell? ⟨w.heap.size, 1, none⟩ = some (.string (bs D.loc.disp)) ∧ wx.cell? ⟨w.heap.size, 2, none⟩ = some (.string (bs D.loc.uri.scheme)) ∧ wx.cell? ⟨w.heap.size, 3, none⟩ = some (.string (bs D.loc.uri.user)) ∧ wx.cell? ⟨w.heap.size, 4, none⟩ = some (.string (bs D.loc.uri.host)) ∧ wx.cell? ⟨w.heap.size, 5, none⟩ = some (.int .i64 D.loc.uri.port) ∧ wx.cell? ⟨w.heap.size, 6, none⟩ = some (.slice e1 D.loc.uri.ps.length y1) ∧ wx.cell? ⟨w.heap.size, 7, none⟩ = some (.slice e2 D.loc.uri.hs.length y2) ∧ wx.cell? ⟨w.heap.size, 8, none⟩ = some (.slice e3 D.loc.ps.length y3) ∧ wx.cell? ⟨w.heap.size, 9, none⟩ = some (.string (bs D.rem.disp)) ∧ wx.cell? ⟨w.heap.size, 10, none⟩ = some (.string (bs D.rem.uri.scheme)) ∧ wx.cell? ⟨w.heap.size, 11, none⟩ = some (.string (bs D.rem.uri.user)) ∧ wx.cell? ⟨w.heap.size, 12, none⟩ = some (.string (bs D.rem.uri.host)) ∧ wx.cell? ⟨w.heap.size, 13, none⟩ = some (.int .i64 D.rem.uri.port) ∧ wx.cell? ⟨w.heap.size, 14, none⟩ = some (.slice e4 D.rem.uri.ps.length y4) ∧ wx.cell? ⟨w.heap.size, 15, none⟩ = some (.slice e5 D.rem.uri.hs.length y5) ∧ wx.cell? ⟨w.heap.size, 16, none⟩ = some (.slice e6 D.rem.ps.length y6) ∧ wx.cell? ⟨w.heap.size, 17, none⟩ = some (.string (bs D.tgt.scheme)) ∧ wx.cell? ⟨w.heap.size, 18, none⟩ = some (.string (bs D.tgt.user)) ∧ wx.cell? ⟨w.heap.size, 19, none⟩ = some (.string (bs D.tgt.host)) ∧ wx.cell? ⟨w.heap.size, 20, none⟩ = some (.int .i64 D.tgt.port) ∧ wx.cell? ⟨w.heap.size, 21, none⟩ = some (.slice e7 D.tgt.ps.length y7) ∧ wx.cell? ⟨w.heap.size, 22, none⟩ = some (.slice e8 D.tgt.hs.length y8) ∧ wx.cell? ⟨w.heap.size, 23, none⟩ = some (.slice e9 D.routes.length y9) from ⟨(boxedCell h 1).trans (by rw [hvs]; rfl), (boxedCell h 2).trans (by rw [hvs]; rfl), (boxedCell h 3).trans (by rw [hvs]; rfl), (boxedCell h 4).trans (by rw [hvs]; rfl), (boxedCell h 5).trans (by rw [hvs]; rfl), (boxedCell h 6).trans (by rw [hvs]; rfl), (boxedCell h 7).trans (by rw [hvs]; rfl), (boxedCell h 8).trans (by rw [hvs]; rfl), (boxedCell h 9).trans (by rw [hvs]; rfl), (boxedCell h 10).trans (by rw [hvs]; rfl), (boxedCell h 11).trans (by rw [hvs]; rfl), (boxedCell h 12).trans (by rw [hvs]; rfl), (boxedCell h 13).trans (by rw [hvs]; rfl), (boxedCell h 14).trans (by rw [hvs]; rfl), (boxedCell h 15).trans (by rw [hvs]; rfl), (boxedCell h 16).trans (by rw [hvs]; rfl), (boxedCell h 17).trans (by rw [hvs]; rfl), (boxedCell h 18).trans (by rw [hvs]; rfl), (boxedCell h 19).trans (by rw [hvs]; rfl), (boxedCell h 20).trans (by rw [hvs]; rfl), (boxedCell h 21).trans (by rw [hvs]; rfl), (boxedCell h 22).trans (by rw [hvs]; rfl), (boxedCell h 23).trans (by rw [hvs]; rfl)⟩))
 have HR9 := κ h9
 have hRl : D.routes.length ≤ 1048576 := bD.1.2.2.2.2.2.1
 have HRB := κ bD.1.2.2.2.2.1
 obtain ⟨ao, cap, rfl, hm1, c1⟩ := hu.form
 have C1 := κ c1
 have HMB := κ hMb
 obtain ⟨_, _, _, _, c2⟩ := h9.form
 obtain ⟨TN, hTN⟩ : ∃ x, x = notifyS D (us HO) (us BR) M (us BO) := ⟨_, rfl⟩
 rw [← hTN] at HNT HNR
 obtain ⟨tt, td, tc⟩ := TN
 dsimp only at HNT HNR
 obtain ⟨TW, hTW⟩ : ∃ x, x = bs (whereD D) := ⟨_, rfl⟩
 rw [← hTW] at HWH HWR
 obtain ⟨TT, hTT⟩ : ∃ x, x = bs tt := ⟨_, rfl⟩
 rw [← hTT] at HNT HNR
 have C2 := κ (h9.form)
 clear hvs hm hD hu hMb bD hN c1 c2 hTN hTW hTT h1 h2 h3 h4 h5 h6 h7 h8 h9
 unfold maxLen at hm1
 go_enter Tryz.func8, Tryz.ntmps8
 go_upto_region 1 with fail
 refine any_world (R := Code.wp _ _ _ _) (fun x => Blk x w.heap.size 34 vs ∧ Below w.heap.size w x) ⟨Blk.new w _ _, (Below.refl _ _).alloc (ρ _) _⟩ ?_
 rintro w0 ⟨bd0, hB0⟩
 have v1 : IntKind.i64.wrap ((BO.size : Int) + (M.length : Int)) = (BO.size : Int) + (M.length : Int) := IntWalk.i64_in _ (by omega)
 go_wp2
 have BD := κ (fun (wx : World) (h : Below w0.heap.size w0 wx) => bd0.call h)
 have HB := κ hB0
 clear v1 bd0 hB0
 go_loopw [11, 12] (fun n i wr => ∃ (k m : Nat), k ≤ D.routes.length ∧ i = .int .i64 k ∧ n = .int .i64 m ∧ m ≤ wB k ∧ Below w0.heap.size w0 wr) (fun _ i _ => D.routes.length - (intOf i).toNat)
 case atStart => exact ⟨0, BO.size + M.length, Nat.zero_le _, rfl, by simp, by unfold wB; omega, Below.refl _ _⟩
 case round =>
  obtain ⟨k, m, hk, rfl, rfl, hmb, hC⟩ := hrel
  have bd := BD.out _ hC
  have hB0 := HB.out.trans (hC.mono HB.out.size)
  have p23 : wr.cell? ⟨w.heap.size, 23, none⟩ = some (.slice e9 D.routes.length y9) := (HX.out _ bd).2.2.2.2.2.2.2.2.2.2.2.2.2.2.2.2.2.2.2.2.2.2
  by_cases hlt : k < D.routes.length
  ·obtain ⟨a9, c9, e9', _, cc⟩ := HR9.out.form
   injection e9' with e9' _ e10'
   subst e9' e10'
   obtain ⟨b, off, rfl, hb1, hc1⟩ := cc (by omega)
   have x0 : wr.cell? ⟨b, off + k, none⟩ = some (.string (bs D.routes[k])) := (hB0.cell (p := ⟨b, off + k, none⟩) hb1).trans (hc1 k hlt)
   have hlen := HRB.out _ (List.getElem_mem hlt)
   obtain ⟨P, hP⟩ : ∃ P, P = bs D.routes[k] := ⟨_, rfl⟩
   have zP : P.size ≤ 1048576 := by rw [hP, size_bs]; exact hlen
   rw [← hP] at x0
   have hle := wB_le (show k + 1 ≤ 2097152 by omega)
   rw [wB_s] at hle
   have HNX := κ (show m + 1 + P.size ≤ wB (k + 1) by rw [wB_s]; omega)
   have k0 : (0 : Int) ≤ (k : Int) := by omega
   have k1 : (k : Int) < (D.routes.length : Int) := by omega
   have v1 : IntKind.i64.wrap ((m : Int) + 1) = (m : Int) + 1 := IntWalk.i64_in _ (by omega)
   have v2 : IntKind.i64.wrap ((m : Int) + 1 + (P.size : Int)) = (m : Int) + 1 + (P.size : Int) := IntWalk.i64_in _ (by omega)
   clear hle hP cc hc1 hlen hmb
   go_wp2
   go_roundw
   case rel => exact ⟨k + 1, m + 1 + P.size, by omega, by go_num, by simp, HNX.out, hC⟩
   case measure => simp [intOf]; omega
  ·have HMM := κ (show m ≤ wB (1048576 + 0) from Nat.le_trans hmb (by unfold wB; omega))
   have BD2 := κ (fun (wx : World) (h : Below wr.heap.size wr wx) => bd.call h)
   have HB2 := κ hB0
   clear hmb
   go_wp2
   clear p23 bd hB0 hC hlt
   go_loopw [11, 13] (fun n i wr2 => ∃ (k m : Nat), k ≤ M.length ∧ i = .int .i64 k ∧ n = .int .i64 m ∧ m ≤ wB (1048576 + k) ∧ Below wr.heap.size wr wr2) (fun _ i _ => M.length - (intOf i).toNat)
   case atStart => exact ⟨0, m, Nat.zero_le _, rfl, rfl, HMM.out, Below.refl _ _⟩
   case round =>
    obtain ⟨k, m, hk, rfl, rfl, hmb, hC⟩ := hrel
    have bd := BD2.out _ hC
    have hB0 := HB2.out.trans (hC.mono HB2.out.size)
    by_cases hlt : k < M.length
    ·obtain ⟨b, off, rfl, hb1, hc1⟩ := C1.out (by omega)
     have x0 : wr.cell? ⟨b, off + k * 2, none⟩ = some (.string (bs M[k].name)) := (hB0.cell (p := ⟨b, off + k * 2, none⟩) hb1).trans (hc1 k hlt).1
     have x1 : wr.cell? ⟨b, off + k * 2 + 1, none⟩ = some (.string (bs M[k].value)) := (hB0.cell (p := ⟨b, off + k * 2 + 1, none⟩) hb1).trans (hc1 k hlt).2
     have hsz := HMB.out _ (List.getElem_mem hlt)
     obtain ⟨P, hP⟩ : ∃ P, P = bs M[k].name := ⟨_, rfl⟩
     obtain ⟨V, hV⟩ : ∃ P, P = bs M[k].value := ⟨_, rfl⟩
     have zP : P.size ≤ 1048576 := by rw [hP, size_bs]; exact hsz.1
     have zV : V.size ≤ 1048576 := by rw [hV, size_bs]; exact hsz.2
     rw [← hP] at x0
     rw [← hV] at x1
     have hle := wB_le (show 1048576 + k + 1 ≤ 2097152 by omega)
     rw [wB_s] at hle
     have HNX := κ (show m + P.size + V.size ≤ wB (1048576 + (k + 1)) by rw [← Nat.add_assoc, wB_s]; omega)
     have k0 : (0 : Int) ≤ (k : Int) := by omega
     have k1 : (k : Int) < (M.length : Int) := by omega
     have v2 : IntKind.i64.wrap ((m : Int) + (P.size : Int)) = (m : Int) + (P.size : Int) := IntWalk.i64_in _ (by omega)
     have v3 : IntKind.i64.wrap ((m : Int) + (P.size : Int) + (V.size : Int)) = (m : Int) + (P.size : Int) + (V.size : Int) := IntWalk.i64_in _ (by omega)
     clear hle hP hV hc1 hsz hmb
     go_wp2
     go_quiet (fail)
     clear v2 v3
     go_wp2
     go_roundw
     case rel => exact ⟨k + 1, m + P.size + V.size, by omega, by go_num, by simp, HNX.out, hC.trans ((Drn.refl _).step _).below⟩
     case measure => simp [intOf]; omega
    ·clear hmb
     obtain ⟨p1, p2, p3, p4, p5, p6, p7, p8, p9, p10, p11, p12, p13, p14, p15, p16, p17, p18, p19, p20, p21, p22, p23⟩ := HX.out _ bd
     by_cases h8 : 8000 < m
     ·have t1 : decide ((8000 : Int) < (m : Int)) = true := by simp; omega
      clear h8
      go_wp2_with (go_at_call 12; refine (HAW.out _ (HM.out.below hB0)).mono ?_; rintro e wz ⟨rfl, hCz⟩; replace hB0 := hB0.trans (hCz.mono hB0.size))
      go_ret
      exact ⟨rfl, hB0⟩
     have t1 : decide ((8000 : Int) < (m : Int)) = false := by simp; omega
     clear h8
     cases f1
     ·go_wp2_with (first | (go_at_call 28; first | ((with_reducible refine (HF1.out _ hB0).mono ?_; rintro e wx ⟨rfl, hC⟩; replace hB0 := hB0.trans (hC.mono hB0.size); replace bd := bd.call hC; clear p1 p2 p3 p4 p5 p6 p7 p8 p9 p10 p11 p12 p13 p14 p15 p16 p17 p18 p19 p20 p21 p22 p23; obtain ⟨p1, p2, p3, p4, p5, p6, p7, p8, p9, p10, p11, p12, p13, p14, p15, p16, p17, p18, p19, p20, p21, p22, p23⟩ := HX.out _ bd; clear hC)) | ((with_reducible refine (HF2.out _ hB0).mono ?_; rintro e wx ⟨rfl, hC⟩; replace hB0 := hB0.trans (hC.mono hB0.size); replace bd := bd.call hC; clear p1 p2 p3 p4 p5 p6 p7 p8 p9 p10 p11 p12 p13 p14 p15 p16 p17 p18 p19 p20 p21 p22 p23; obtain ⟨p1, p2, p3, p4, p5, p6, p7, p8, p9, p10, p11, p12, p13, p14, p15, p16, p17, p18, p19, p20, p21, p22, p23⟩ := HX.out _ bd; clear hC)) | ((with_reducible refine (HF3.out _ hB0).mono ?_; rintro e wx ⟨rfl, hC⟩; replace hB0 := hB0.trans (hC.mono hB0.size); replace bd := bd.call hC; clear p1 p2 p3 p4 p5 p6 p7 p8 p9 p10 p11 p12 p13 p14 p15 p16 p17 p18 p19 p20 p21 p22 p23; obtain ⟨p1, p2, p3, p4, p5, p6, p7, p8, p9, p10, p11, p12, p13, p14, p15, p16, p17, p18, p19, p20, p21, p22, p23⟩ := HX.out _ bd; clear hC))) | (go_at_call 12; refine (HAW.out _ (HM.out.below hB0)).mono ?_; rintro e wz ⟨rfl, hCz⟩; replace hB0 := hB0.trans (hCz.mono hB0.size)))
      go_ret
      exact ⟨rfl, hB0⟩
     cases f2
     ·go_wp2_with (first | (go_at_call 28; first | ((with_reducible refine (HF1.out _ hB0).mono ?_; rintro e wx ⟨rfl, hC⟩; replace hB0 := hB0.trans (hC.mono hB0.size); replace bd := bd.call hC; clear p1 p2 p3 p4 p5 p6 p7 p8 p9 p10 p11 p12 p13 p14 p15 p16 p17 p18 p19 p20 p21 p22 p23; obtain ⟨p1, p2, p3, p4, p5, p6, p7, p8, p9, p10, p11, p12, p13, p14, p15, p16, p17, p18, p19, p20, p21, p22, p23⟩ := HX.out _ bd; clear hC)) | ((with_reducible refine (HF2.out _ hB0).mono ?_; rintro e wx ⟨rfl, hC⟩; replace hB0 := hB0.trans (hC.mono hB0.size); replace bd := bd.call hC; clear p1 p2 p3 p4 p5 p6 p7 p8 p9 p10 p11 p12 p13 p14 p15 p16 p17 p18 p19 p20 p21 p22 p23; obtain ⟨p1, p2, p3, p4, p5, p6, p7, p8, p9, p10, p11, p12, p13, p14, p15, p16, p17, p18, p19, p20, p21, p22, p23⟩ := HX.out _ bd; clear hC)) | ((with_reducible refine (HF3.out _ hB0).mono ?_; rintro e wx ⟨rfl, hC⟩; replace hB0 := hB0.trans (hC.mono hB0.size); replace bd := bd.call hC; clear p1 p2 p3 p4 p5 p6 p7 p8 p9 p10 p11 p12 p13 p14 p15 p16 p17 p18 p19 p20 p21 p22 p23; obtain ⟨p1, p2, p3, p4, p5, p6, p7, p8, p9, p10, p11, p12, p13, p14, p15, p16, p17, p18, p19, p20, p21, p22, p23⟩ := HX.out _ bd; clear hC))) | (go_at_call 12; refine (HAW.out _ (HM.out.below hB0)).mono ?_; rintro e wz ⟨rfl, hCz⟩; replace hB0 := hB0.trans (hCz.mono hB0.size)))
      go_ret
      exact ⟨rfl, hB0⟩
     cases f3
     ·go_wp2_with (first | (go_at_call 28; first | ((with_reducible refine (HF1.out _ hB0).mono ?_; rintro e wx ⟨rfl, hC⟩; replace hB0 := hB0.trans (hC.mono hB0.size); replace bd := bd.call hC; clear p1 p2 p3 p4 p5 p6 p7 p8 p9 p10 p11 p12 p13 p14 p15 p16 p17 p18 p19 p20 p21 p22 p23; obtain ⟨p1, p2, p3, p4, p5, p6, p7, p8, p9, p10, p11, p12, p13, p14, p15, p16, p17, p18, p19, p20, p21, p22, p23⟩ := HX.out _ bd; clear hC)) | ((with_reducible refine (HF2.out _ hB0).mono ?_; rintro e wx ⟨rfl, hC⟩; replace hB0 := hB0.trans (hC.mono hB0.size); replace bd := bd.call hC; clear p1 p2 p3 p4 p5 p6 p7 p8 p9 p10 p11 p12 p13 p14 p15 p16 p17 p18 p19 p20 p21 p22 p23; obtain ⟨p1, p2, p3, p4, p5, p6, p7, p8, p9, p10, p11, p12, p13, p14, p15, p16, p17, p18, p19, p20, p21, p22, p23⟩ := HX.out _ bd; clear hC)) | ((with_reducible refine (HF3.out _ hB0).mono ?_; rintro e wx ⟨rfl, hC⟩; replace hB0 := hB0.trans (hC.mono hB0.size); replace bd := bd.call hC; clear p1 p2 p3 p4 p5 p6 p7 p8 p9 p10 p11 p12 p13 p14 p15 p16 p17 p18 p19 p20 p21 p22 p23; obtain ⟨p1, p2, p3, p4, p5, p6, p7, p8, p9, p10, p11, p12, p13, p14, p15, p16, p17, p18, p19, p20, p21, p22, p23⟩ := HX.out _ bd; clear hC))) | (go_at_call 12; refine (HAW.out _ (HM.out.below hB0)).mono ?_; rintro e wz ⟨rfl, hCz⟩; replace hB0 := hB0.trans (hCz.mono hB0.size)))
      go_ret
      exact ⟨rfl, hB0⟩
     go_upto_region 12 with (go_at_call 28; first | ((with_reducible refine (HF1.out _ hB0).mono ?_; rintro e wx ⟨rfl, hC⟩; replace hB0 := hB0.trans (hC.mono hB0.size); replace bd := bd.call hC; clear p1 p2 p3 p4 p5 p6 p7 p8 p9 p10 p11 p12 p13 p14 p15 p16 p17 p18 p19 p20 p21 p22 p23; obtain ⟨p1, p2, p3, p4, p5, p6, p7, p8, p9, p10, p11, p12, p13, p14, p15, p16, p17, p18, p19, p20, p21, p22, p23⟩ := HX.out _ bd; clear hC)) | ((with_reducible refine (HF2.out _ hB0).mono ?_; rintro e wx ⟨rfl, hC⟩; replace hB0 := hB0.trans (hC.mono hB0.size); replace bd := bd.call hC; clear p1 p2 p3 p4 p5 p6 p7 p8 p9 p10 p11 p12 p13 p14 p15 p16 p17 p18 p19 p20 p21 p22 p23; obtain ⟨p1, p2, p3, p4, p5, p6, p7, p8, p9, p10, p11, p12, p13, p14, p15, p16, p17, p18, p19, p20, p21, p22, p23⟩ := HX.out _ bd; clear hC)) | ((with_reducible refine (HF3.out _ hB0).mono ?_; rintro e wx ⟨rfl, hC⟩; replace hB0 := hB0.trans (hC.mono hB0.size); replace bd := bd.call hC; clear p1 p2 p3 p4 p5 p6 p7 p8 p9 p10 p11 p12 p13 p14 p15 p16 p17 p18 p19 p20 p21 p22 p23; obtain ⟨p1, p2, p3, p4, p5, p6, p7, p8, p9, p10, p11, p12, p13, p14, p15, p16, p17, p18, p19, p20, p21, p22, p23⟩ := HX.out _ bd; clear hC)))
     clear t1 HF1 HF2 HF3
     clear p1 p2 p3 p4 p5 p6 p7 p8 p9 p10 p11 p12 p13 p14 p15 p16 p17 p18 p19 p20 p21 p22 p23
     clear BD BD2 HB HB2 HX HR9 HRB C1 C2 HMB hk hRl hC
     go_upto_region 13 with (first | ((with_reducible refine holdLoad 34 rfl ?_); unfold Hold; refine wpList_loadB (vs := vs) rfl rfl rfl Tryz.underlying34 (by rw [d26]; rfl) bd (whole _) ?_) | (go_at_call 13; refine (HNT.out _ hB0).mono ?_; rintro e w1 ⟨xs, rfl, hX, hC⟩; replace bd := bd.call hC; replace hB0 := hB0.trans (hC.mono hB0.size); obtain ⟨xs', ex, x26, xone, _, _, hX⟩ := hX.row; injection ex with ex; subst ex) | ((with_reducible refine holdStore 34 rfl ?_); unfold Hold; refine wpList_storeNew (vs := xs) rfl rfl rfl rfl (by rw [x26]; rfl) (by rw [x26]; rfl) xone ?_; refine wpList_to (fun x => Blk x w.heap.size 34 vs ∧ Blk x w1.heap.size 34 xs ∧ RDlg x (.agg xs) td ∧ Below w.heap.size w x) ⟨bd.alloc _, Blk.new _ _ _, hX.below ((Below.refl _ _).alloc (ρ _) _) (ρ _), hB0.alloc hB0.size _⟩ ?_; clear bd hX hB0 hC; rintro w2 ⟨bd, bx, hX, hB0⟩))
     obtain ⟨gx, hgx⟩ : ∃ zz, zz = w1.heap.size := ⟨_, rfl⟩
     rw [← hgx] at bx ⊢
     clear hgx
     go_upto_region 14 with (first | ((with_reducible refine holdLoad 34 rfl ?_); unfold Hold; refine wpList_loadB (vs := vs) rfl rfl rfl Tryz.underlying34 (by rw [d26]; rfl) bd (whole _) ?_) | (go_at_call 29; refine (HNR.out _ hB0).mono ?_; rintro e w3 ⟨ys, rfl, hY, hC⟩; replace bd := bd.call hC; replace bx := bx.call hC; replace hX := hX.below hC (ρ _); replace hB0 := hB0.trans (hC.mono hB0.size); obtain ⟨ys', ex, y26, yone, _, _, hY⟩ := hY.row; injection ex with ex; subst ex) | ((with_reducible refine holdStore 34 rfl ?_); unfold Hold; refine wpList_storeNew (vs := ys) rfl rfl rfl rfl (by rw [y26]; rfl) (by rw [y26]; rfl) yone ?_; refine wpList_to (fun x => Blk x w.heap.size 34 vs ∧ Blk x gx 34 xs ∧ Blk x w3.heap.size 34 ys ∧ RDlg x (.agg xs) td ∧ RDlg x (.agg ys) td ∧ Below w.heap.size w x) ⟨bd.alloc _, bx.alloc _, Blk.new _ _ _, hX.below ((Below.refl _ _).alloc (ρ _) _) (ρ _), hY.below ((Below.refl _ _).alloc (ρ _) _) (ρ _), hB0.alloc hB0.size _⟩ ?_; clear bd bx hX hY hB0 hC; rintro w4 ⟨bd, bx, by_, hX, hY, hB0⟩))
     obtain ⟨gy, hgy⟩ : ∃ zz, zz = w3.heap.size := ⟨_, rfl⟩
     rw [← hgy] at by_ ⊢
     clear hgy HNT HNR xone yone
     have HS := κ (fun (wx : World) (h : Below w4.heap.size w4 wx) => (show Blk wx gx 34 xs ∧ Blk wx gy 34 ys ∧ Blk wx w.heap.size 34 vs from ⟨bx.call h, by_.call h, bd.call h⟩))
     have HSA := κ (fun (wx : World) (h : Below w4.heap.size w4 wx) => sameD_c (.agg xs) (.agg ys) td wx (hX.below h (ρ _)) (hY.below h (ρ _)))
     have HB9 := κ hB0
     have hZ : Below w4.heap.size w4 w4 := Below.refl _ _
     clear hX hY bx by_ bd hB0
     refine wp_region_held_drew (S := fun wx => Blk wx gx 34 xs ∧ Blk wx gy 34 ys ∧ Blk wx w.heap.size 34 vs) (by kernel_rfl) (HS.out _ (zDrew hZ)) (fun hHeld => ?_)
     refine tkH 0 ?_
     try simp only [Act.put, agS]
     try simp only [beq_self_eq_true, decide_true, Bool.and_true, Bool.true_and, Bool.and_self]
     refine tkH 1 ?_
     try simp only [Act.put, agS]
     try simp only [beq_self_eq_true, decide_true, Bool.and_true, Bool.true_and, Bool.and_self]
     refine tkH 2 ?_
     try simp only [Act.put, agS]
     try simp only [beq_self_eq_true, decide_true, Bool.and_true, Bool.true_and, Bool.and_self]
     refine tkH 3 ?_
     try simp only [Act.put, agS]
     try simp only [beq_self_eq_true, decide_true, Bool.and_true, Bool.true_and, Bool.and_self]
     refine tkH 4 ?_ (v := .agg xs) (hy := fun wx hSw => run_loadN rfl rfl Tryz.underlying34 (by rw [x26]; rfl) hSw.1)
     try simp only [Act.put, agS]
     try simp only [beq_self_eq_true, decide_true, Bool.and_true, Bool.true_and, Bool.and_self]
     refine tkH 5 ?_ (v := .agg ys) (hy := fun wx hSw => run_loadN rfl rfl Tryz.underlying34 (by rw [y26]; rfl) hSw.2.1)
     try simp only [Act.put, agS]
     try simp only [beq_self_eq_true, decide_true, Bool.and_true, Bool.true_and, Bool.and_self]
     refine rdyH 6 (fun K hK => ?_)
     go_simp
     go_at_call 14
     refine (HSA.out _ (by first | exact hZ | exact zDrew hZ)).mono ?_
     rintro e z1 ⟨rfl, hC⟩
     have hZ' : Below w4.heap.size w4 z1 := by first | exact zUp hZ hZ.size hC | exact zUp (zDrew hZ) (zDrew hZ).size hC
     clear hZ
     have hZ := hZ'
     clear hZ' hC
     (try dsimp only)
     refine hK.out _ _ ?_ (fun hHeld => ?_)
     focus ((try dsimp only); first | exact HS.out _ hZ | exact HS.out _ (zDrew hZ))
     clear hK K
     try simp only [Act.put, agS]
     try simp only [beq_self_eq_true, decide_true, Bool.and_true, Bool.true_and, Bool.and_self]
     refine tkH 7 ?_
     try simp only [Act.put, agS]
     try simp only [beq_self_eq_true, decide_true, Bool.and_true, Bool.true_and, Bool.and_self]
     refine tkH 8 ?_
     try simp only [Act.put, agS]
     try simp only [beq_self_eq_true, decide_true, Bool.and_true, Bool.true_and, Bool.and_self]
     refine tkH 9 ?_
     try simp only [Act.put, agS]
     try simp only [beq_self_eq_true, decide_true, Bool.and_true, Bool.true_and, Bool.and_self]
     refine tkH 10 ?_
     try simp only [Act.put, agS]
     try simp only [beq_self_eq_true, decide_true, Bool.and_true, Bool.true_and, Bool.and_self]
     refine tkH 11 ?_
     try simp only [Act.put, agS]
     try simp only [beq_self_eq_true, decide_true, Bool.and_true, Bool.true_and, Bool.and_self]
     refine tkH 12 ?_
     try simp only [Act.put, agS]
     try simp only [beq_self_eq_true, decide_true, Bool.and_true, Bool.true_and, Bool.and_self]
     refine tkH 13 ?_
     try simp only [Act.put, agS]
     try simp only [beq_self_eq_true, decide_true, Bool.and_true, Bool.true_and, Bool.and_self]
     refine tkH 14 ?_ (v := .agg vs) (hy := fun wx hSw => run_loadN rfl rfl Tryz.underlying34 (by rw [d26]; rfl) hSw.2.2)
     try simp only [Act.put, agS]
     try simp only [beq_self_eq_true, decide_true, Bool.and_true, Bool.true_and, Bool.and_self]
     refine tkH 16 ?_ (v := .agg vs) (hy := fun wx hSw => run_loadN rfl rfl Tryz.underlying34 (by rw [d26]; rfl) hSw.2.2)
     try simp only [Act.put, agS]
     try simp only [beq_self_eq_true, decide_true, Bool.and_true, Bool.true_and, Bool.and_self]
     refine rdyH 15 (fun K hK => ?_)
     go_simp
     go_at_call 27
     refine (HWH.out _ (by first | exact HB9.out.trans (hZ.mono HB9.out.size) | exact HB9.out.trans ((zDrew hZ).mono HB9.out.size))).mono ?_
     rintro e z2 ⟨rfl, hC⟩
     have hZ' : Below w4.heap.size w4 z2 := by first | exact zUp hZ hZ.size hC | exact zUp (zDrew hZ) (zDrew hZ).size hC
     clear hZ
     have hZ := hZ'
     clear hZ' hC
     (try dsimp only)
     refine hK.out _ _ ?_ (fun hHeld => ?_)
     focus ((try dsimp only); first | exact HS.out _ hZ | exact HS.out _ (zDrew hZ))
     clear hK K
     try simp only [Act.put, agS]
     try simp only [beq_self_eq_true, decide_true, Bool.and_true, Bool.true_and, Bool.and_self]
     refine rdyH 17 (fun K hK => ?_)
     go_simp
     go_at_call 30
     refine (HWR.out _ (by first | exact HB9.out.trans (hZ.mono HB9.out.size) | exact HB9.out.trans ((zDrew hZ).mono HB9.out.size))).mono ?_
     rintro e z3 ⟨rfl, hC⟩
     have hZ' : Below w4.heap.size w4 z3 := by first | exact zUp hZ hZ.size hC | exact zUp (zDrew hZ) (zDrew hZ).size hC
     clear hZ
     have hZ := hZ'
     clear hZ' hC
     (try dsimp only)
     refine hK.out _ _ ?_ (fun hHeld => ?_)
     focus ((try dsimp only); first | exact HS.out _ hZ | exact HS.out _ (zDrew hZ))
     clear hK K
     try simp only [Act.put, agS]
     try simp only [beq_self_eq_true, decide_true, Bool.and_true, Bool.true_and, Bool.and_self]
     refine tkH 18 ?_
     try simp only [Act.put, agS]
     try simp only [beq_self_eq_true, decide_true, Bool.and_true, Bool.true_and, Bool.and_self]
     refine tkH 19 ?_
     try simp only [Act.put, agS]
     try simp only [beq_self_eq_true, decide_true, Bool.and_true, Bool.true_and, Bool.and_self]
     refine tkH 20 ?_
     try simp only [Act.put, agS]
     try simp only [beq_self_eq_true, decide_true, Bool.and_true, Bool.true_and, Bool.and_self]
     refine rdyH 21 (fun K hK => ?_)
     go_simp
     go_at_call 12
     refine (HAW.out _ (HM.out.below (by first | exact HB9.out.trans (hZ.mono HB9.out.size) | exact HB9.out.trans ((zDrew hZ).mono HB9.out.size)))).mono ?_
     rintro e z4 ⟨rfl, hC⟩
     have hZ' : Below w4.heap.size w4 z4 := by first | exact zUp hZ hZ.size hC | exact zUp (zDrew hZ) (zDrew hZ).size hC
     clear hZ
     have hZ := hZ'
     clear hZ' hC
     (try dsimp only)
     refine hK.out _ _ ?_ (fun hHeld => ?_)
     focus ((try dsimp only); first | exact HS.out _ hZ | exact HS.out _ (zDrew hZ))
     clear hK K
     try simp only [Act.put, agS]
     try simp only [beq_self_eq_true, decide_true, Bool.and_true, Bool.true_and, Bool.and_self]
     refine tkH 22 ?_
     try simp only [Act.put, agS]
     try simp only [beq_self_eq_true, decide_true, Bool.and_true, Bool.true_and, Bool.and_self]
     refine tkH 23 ?_
     try simp only [Act.put, agS]
     try simp only [beq_self_eq_true, decide_true, Bool.and_true, Bool.true_and, Bool.and_self]
     refine wpAnyH_done (by kernel_rfl) ?_ _
     go_wp2
     go_ret
     exact ⟨rfl, HB9.out.trans (hZ.mono HB9.out.size)⟩
end Go.Proofs.YtipdiddjhimdcaaGreatDoor
