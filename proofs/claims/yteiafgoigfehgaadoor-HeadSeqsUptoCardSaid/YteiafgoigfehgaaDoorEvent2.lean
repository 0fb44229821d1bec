/-
  head.Event, rosterref08.Event.
-/
import Derived.Test.YteiafgoigfehgaaDoorEvent
import Derived.Test.YteiafgoigfehgaaDoorScanM
namespace Go.Proofs.YteiafgoigfehgaaDoor
open Go.RowKit

/-- the box of a struct of two cells, behind a call -/
theorem box2 {w w1 : World} {a b : Value} {t : TypeId} (hC : Below (w.alloc (.cells #[a, b] t)).heap.size (w.alloc (.cells #[a, b] t)) w1) :
    w1.cell? ⟨w.heap.size, 0, none⟩ = some a ∧ w1.cell? ⟨w.heap.size, 1, none⟩ = some b ∧ w1.frozen? ⟨w.heap.size, 0, none⟩ = false ∧ w1.frozen? ⟨w.heap.size, 1, none⟩ = false ∧ w.heap.size < w1.heap.size ∧ Below w.heap.size w w1 := by
  have hs : (w.alloc (.cells #[a, b] t)).heap.size = w.heap.size + 1 := World.size_alloc _ _
  rw [hs] at hC
  have h := boxedAt hC
  exact ⟨boxedCell h 0, boxedCell h 1, boxedFree h 0, boxedFree h 1, by have := hC.size; omega, ((Below.refl _ _).alloc (Nat.le_refl _) _).trans (hC.mono (by omega))⟩
theorem box2n {w1 w2 : World} {g : Nat} {a b : Value} (r0 : w1.cell? ⟨g, 0, none⟩ = some a) (r1 : w1.cell? ⟨g, 1, none⟩ = some b) (f0 : w1.frozen? ⟨g, 0, none⟩ = false) (f1 : w1.frozen? ⟨g, 1, none⟩ = false) (hz : g < w1.heap.size) (hC : Below w1.heap.size w1 w2) :
    w2.cell? ⟨g, 0, none⟩ = some a ∧ w2.cell? ⟨g, 1, none⟩ = some b ∧ w2.frozen? ⟨g, 0, none⟩ = false ∧ w2.frozen? ⟨g, 1, none⟩ = false ∧ g < w2.heap.size :=
  ⟨(hC.cell (p := ⟨g, 0, none⟩) hz).trans r0, (hC.cell (p := ⟨g, 1, none⟩) hz).trans r1, (hC.frozen (p := ⟨g, 0, none⟩) hz).trans f0, (hC.frozen (p := ⟨g, 1, none⟩) hz).trans f1, Nat.lt_of_lt_of_le hz hC.size⟩

/-- an event, as a text says it -/
def evS (l : List UInt8) : (List UInt8 × List Prm) × Int := if okP l = true then ((nameP l, (fieldsP l).1), 0) else (([], []), 81)
theorem evS_yes (l : List UInt8) (h : okP l = true) : evS l = ((nameP l, (fieldsP l).1), 0) := by unfold evS; rw [if_pos h]
theorem evS_no (l : List UInt8) (h : okP l = false) : evS l = (([], []), 81) := by unfold evS; rw [if_neg (by rw [h]; decide)]
def EvPost (l : List UInt8) (w : World) (e : Ending) (w' : World) : Prop :=
  ∃ u, e = .returned (.tuple #[.agg #[.string (bs (evS l).1.1), u], .int .i64 (evS l).2]) ∧ RPrms w' u (evS l).1.2 ∧ Fresh w.heap.size u ∧ Below w.heap.size w w'

set_option maxHeartbeats 800000 in
theorem event_c (s : ByteArray) (hs : s.size ≤ 4294967280) (w : World) (hm : Ml w) :
    Calls Tryd.prog 29 #[.string s] w (EvPost (us s) w) := by
  have HM := Lib.hid hm
  clear hm
  have HH := Lib.hid (fun wx hx => fieldsH_c s hs wx hx)
  have HY := Lib.hid (evS_yes (us s))
  have HN := Lib.hid (evS_no (us s))
  obtain ⟨ok, hok⟩ : ∃ ok, ok = okP (us s) := ⟨_, rfl⟩
  rw [← hok] at HH HY HN
  obtain ⟨N, hN⟩ : ∃ N, N = nameP (us s) := ⟨_, rfl⟩
  obtain ⟨F, hF⟩ : ∃ F, F = fieldsP (us s) := ⟨_, rfl⟩
  rw [← hN] at HH HY
  rw [← hF] at HH HY
  clear hok hN hF
  have hR : Below w.heap.size w w := Below.refl _ _
  cases ok
  · have HE := Lib.hid (HN.out rfl)
    clear HY HN
    go_enter Tryd.func29, Tryd.ntmps29
    go_wp2_with (go_at_call 47; refine (HH.out _ (HM.out.below (hR.alloc (Nat.le_refl _) _))).mono ?_; rintro e w1 ⟨u, rfl, hu, hF0, hC⟩; obtain ⟨r0, r1, f0, f1, hz, hB⟩ := box2 hC; clear hC hu hF0)
    refine bodyPost_ret (v := .tuple #[.agg #[.string ⟨#[]⟩, .slice none 0 0], .int .i64 81]) (by simp [results, Tryd.results29, go_sem, r0, r1]) rfl ?_
    exact ⟨_, by rw [HE.out]; rfl, .inl ⟨⟨_, _, rfl⟩, by rw [HE.out]⟩, Fresh.nil _ _ _, (hB.setCell (Nat.le_refl _) _).setCell (Nat.le_refl _) _⟩
  · have HE := Lib.hid (HY.out rfl)
    clear HY HN
    go_enter Tryd.func29, Tryd.ntmps29
    go_wp2_with (go_at_call 47; refine (HH.out _ (HM.out.below (hR.alloc (Nat.le_refl _) _))).mono ?_; rintro e w1 ⟨u, rfl, hu, hF0, hC⟩; rw [show (w.alloc (.cells #[.string ⟨#[]⟩, .slice none 0 0] 56)).heap.size = w.heap.size + 1 from World.size_alloc _ _] at hF0; obtain ⟨r0, r1, f0, f1, hz, hB⟩ := box2 hC; clear hC; have HU := Lib.hid hu; obtain ⟨ao, cp, rfl, hml, hcl⟩ := hu.form; clear hu hcl)
    refine bodyPost_ret (v := .tuple #[.agg #[.string (bs N), .slice ao F.1.length cp], .int .i64 0]) (by simp [results, Tryd.results29, go_sem, r0, r1]) rfl ?_
    exact ⟨_, by rw [HE.out], by rw [HE.out]; exact (HU.out.set hF0 (Nat.lt_succ_self _) _).set hF0 (Nat.lt_succ_self _) _, hF0.mono (Nat.le_succ _), (hB.setCell (Nat.le_refl _) _).setCell (Nat.le_refl _) _⟩

set_option maxHeartbeats 800000 in
theorem eventR_c (s : ByteArray) (hs : s.size ≤ 4294967280) (w : World) :
    Calls Tryd.prog 30 #[.string s] w (EvPost (us s) w) := by
  have HB := Lib.hid (fun p hp => Nat.le_trans (parts_bd 59 (us s) p hp) (by rw [length_us]; exact hs))
  have HPC := Lib.hid (fun wx => partsR_c s (by omega) 59 wx)
  have hne := parts_ne 59 (us s)
  have HN := Lib.hid (show nameP (us s) = trim ((parts (us s) 59).headD []) from rfl)
  have HF := Lib.hid (show fieldsP (us s) = fieldsS (parts (us s) 59).tail from rfl)
  have HO := Lib.hid (show okP (us s) = (token (nameP (us s)) && ((fieldsP (us s)).2 == 0)) from rfl)
  have HYY := Lib.hid (evS_yes (us s))
  have HNN := Lib.hid (evS_no (us s))
  obtain ⟨L, hL⟩ : ∃ L, L = parts (us s) 59 := ⟨_, rfl⟩
  rw [← hL] at HB HPC HN HF hne
  clear hL
  obtain ⟨x, r, rfl⟩ : ∃ x r, L = x :: r := by cases L with | nil => exact absurd rfl hne | cons x r => exact ⟨x, r, rfl⟩
  clear hne
  have HTR := Lib.hid (fun wx => trimR_c (bs x) (by rw [size_bs]; have := HB.out x (List.mem_cons_self ..); omega) wx)
  rw [us_bs] at HTR
  have hxl := HB.out x (List.mem_cons_self ..)
  have htl := trim_le x
  have HTK := Lib.hid (fun wx => tokenR_c (bs (nameP (us s))) (by rw [size_bs, HN.out]; show (trim x).length ≤ _; omega) wx)
  rw [us_bs] at HTK
  rw [show (trim x) = nameP (us s) from HN.out.symm] at HTR
  have HFC := Lib.hid (fun wx v hv => fieldsR_c v r wx hv (fun p hp => HB.out p (List.mem_cons_of_mem _ hp)))
  rw [show fieldsS r = fieldsP (us s) from HF.out.symm] at HFC
  clear hxl htl
  obtain ⟨N, hN⟩ : ∃ N, N = nameP (us s) := ⟨_, rfl⟩
  obtain ⟨F, hF⟩ : ∃ F, F = fieldsP (us s) := ⟨_, rfl⟩
  rw [← hN] at HTR HTK HO HYY
  rw [← hF] at HFC HO HYY
  clear hN hF HN HF
  obtain ⟨Fl, Fe⟩ := F
  dsimp only at HO HFC HYY
  have hcase : (okP (us s) = false ∧ (token N = false ∨ (token N = true ∧ (Fe != 0) = true))) ∨ (okP (us s) = true ∧ token N = true ∧ (Fe != 0) = false) := by
    rw [HO.out]
    cases token N <;> cases hq : (Fe == 0) <;> simp [bne, hq]
  rcases hcase with ⟨hok, h2⟩ | ⟨hok, htk, hfe⟩
  · have HE := Lib.hid (HNN.out hok)
    clear hok
    rcases h2 with htk | ⟨htk, hfe⟩
    all_goals
      rw [htk] at HTK; clear htk
      go_enter Tryd.func30, Tryd.ntmps30
      go_wp2_with (first | (go_at_call 43; refine (HPC.out _).mono ?_; rintro e w1 ⟨v, rfl, hv, hC⟩; obtain ⟨r0, r1, f0, f1, hz, hB⟩ := box2 hC; clear hC; have HV := Lib.hid hv; obtain ⟨ao, cap, rfl, hm1, c1⟩ := hv.form; obtain ⟨b, off, rfl, hb1, hc1⟩ := c1 (by simp); have x0 := hc1 0 (by simp); rw [Nat.add_zero] at x0; have k1 : (0 : Int) < ((x :: r).length : Int) := (by simp); clear hc1 c1; unfold maxLen at hm1) | (go_at_call 42; refine (HTR.out _).mono ?_; rintro e wx ⟨rfl, rfl⟩) | (go_at_call 54; refine (HFC.out _ _ (by first | exact HV.out.tailB | exact HV.out.tailA (by first | assumption | omega))).mono ?_; rintro e w2 ⟨u, rfl, hu, hF0, hC2⟩; obtain ⟨r0', r1', f0', f1', hz'⟩ := box2n r0 r1 f0 f1 hz hC2; have hB2 := hB.trans (hC2.mono (Nat.le_of_lt hz)); clear hu hF0 hC2) | (go_at_call 45; refine (HTK.out _).mono ?_; rintro e wx ⟨rfl, rfl⟩))
      all_goals
        refine bodyPost_ret (v := .tuple #[.agg #[.string ⟨#[]⟩, .slice none 0 0], .int .i64 81]) (by simp [results, Tryd.results30, go_sem, r0', r1']) rfl ?_
        exact ⟨_, by rw [HE.out]; rfl, .inl ⟨⟨_, _, rfl⟩, by rw [HE.out]⟩, Fresh.nil _ _ _, (hB2.setCell (Nat.le_refl _) _).setCell (Nat.le_refl _) _⟩
  · have HE := Lib.hid (HYY.out hok)
    rw [htk] at HTK; clear htk hok
    go_enter Tryd.func30, Tryd.ntmps30
    go_wp2_with (first | (go_at_call 43; refine (HPC.out _).mono ?_; rintro e w1 ⟨v, rfl, hv, hC⟩; obtain ⟨r0, r1, f0, f1, hz, hB⟩ := box2 hC; clear hC; have HV := Lib.hid hv; obtain ⟨ao, cap, rfl, hm1, c1⟩ := hv.form; obtain ⟨b, off, rfl, hb1, hc1⟩ := c1 (by simp); have x0 := hc1 0 (by simp); rw [Nat.add_zero] at x0; have k1 : (0 : Int) < ((x :: r).length : Int) := (by simp); clear hc1 c1; unfold maxLen at hm1) | (go_at_call 42; refine (HTR.out _).mono ?_; rintro e wx ⟨rfl, rfl⟩) | (go_at_call 54; refine (HFC.out _ _ (by first | exact HV.out.tailB | exact HV.out.tailA (by first | assumption | omega))).mono ?_; rintro e w2 ⟨u, rfl, hu, hF0, hC2⟩; obtain ⟨r0', r1', f0', f1', hz'⟩ := box2n r0 r1 f0 f1 hz hC2; have hB2 := hB.trans (hC2.mono (Nat.le_of_lt hz)); have hF1 := hF0.mono (Nat.succ_le_of_lt hz); clear hC2; have HU := Lib.hid hu; obtain ⟨ao, cp, rfl, hml, hcl⟩ := hu.form; clear hu hcl hF0) | (go_at_call 45; refine (HTK.out _).mono ?_; rintro e wx ⟨rfl, rfl⟩))
    all_goals
      refine bodyPost_ret (v := .tuple #[.agg #[.string (bs N), .slice ao Fl.length cp], .int .i64 0]) (by simp [results, Tryd.results30, go_sem, r0', r1']) rfl ?_
      exact ⟨_, by rw [HE.out], by rw [HE.out]; exact (HU.out.set hF1 (Nat.lt_succ_self _) _).set hF1 (Nat.lt_succ_self _) _, hF1.mono (Nat.le_succ _), (hB2.setCell (Nat.le_refl _) _).setCell (Nat.le_refl _) _⟩

end Go.Proofs.YteiafgoigfehgaaDoor
