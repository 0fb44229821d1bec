/-
  head.fields, head.Event, rosterref08.Event.
  head.Event, rosterref08.Event.
  head.Print, head.Is, the reference's, and rosterref08.Same.
-/
import Derived.Test.YteiafgoigfehgaaDoorFld
import Derived.Test.YteiafgoigfehgaaDoorScS
import Derived.Test.YteiafgoigfehgaaDoorTxt
import Derived.Test.YteiafgoigfehgaaDoorPrm
import Derived.Test.YteiafgoigfehgaaDoorHed
namespace Go.Proofs.YteiafgoigfehgaaDoor

section
open Go.RowKit

theorem mem_glue (sep : List UInt8) : ∀ (L : List (List UInt8)) (p : List UInt8), p ∈ L → p.length ≤ (glue sep L).length
  | [], p, h => by cases h
  | [x], p, h => by rw [List.mem_singleton.1 h]; exact Nat.le_refl _
  | x :: y :: r, p, h => by
    rw [glue]
    rcases List.mem_cons.1 h with rfl | h
    · simp
    · have := mem_glue sep (y :: r) p h
      simp; omega
theorem parts_bd (c : UInt8) (l p : List UInt8) (h : p ∈ parts l c) : p.length ≤ l.length := by
  have := mem_glue [c] (parts l c) p h
  rwa [glue_parts] at this
theorem parts_ne (c : UInt8) (l : List UInt8) : parts l c ≠ [] := partsGo_ne c l false false []
/-- a slice behind its first element -/
theorem RStrs.tailA {w : World} {b off cap : Nat} {x : List UInt8} {L : List (List UInt8)} (h : RStrs w (.slice (some ⟨b, off, none⟩) (x :: L).length cap) (x :: L)) (hc : cap = 1) : RStrs w (.slice (some ⟨b, off, none⟩) L.length 0) L := by
  rcases h.cases with ⟨⟨_, _, h1⟩, _⟩ | ⟨b', off', cap', h1, h2, h2', h3, h4⟩
  · injection h1 with _ h1 _; simp at h1
  · injection h1 with e1 e2 e3
    injection e1 with e1
    injection e1 with eb eo
    subst eb eo e3 hc
    rw [List.length_cons] at h2
    have hL : L = [] := List.eq_nil_of_length_eq_zero (by omega)
    subst hL
    exact .inr ⟨b, off, 0, rfl, Nat.zero_le _, Nat.zero_le _, h3, fun j u hj => by simp at hj⟩
theorem RStrs.tailB {w : World} {b off cap : Nat} {x : List UInt8} {L : List (List UInt8)} (h : RStrs w (.slice (some ⟨b, off, none⟩) (x :: L).length cap) (x :: L)) : RStrs w (.slice (some ⟨b, off + 1, none⟩) L.length (cap - 1)) L := by
  rcases h.cases with ⟨⟨_, _, h1⟩, _⟩ | ⟨b', off', cap', h1, h2, h2', h3, h4⟩
  · injection h1 with _ h1 _; simp at h1
  · injection h1 with e1 e2 e3
    injection e1 with e1
    injection e1 with eb eo
    subst eb eo e3
    rw [List.length_cons] at h2
    refine .inr ⟨b, off + 1, cap - 1, rfl, by omega, by omega, h3, fun j u hj => ?_⟩
    have hj' : j < L.length := by have := (List.getElem?_eq_some_iff.1 hj).1; simpa using this
    have := h4 (j + 1) (by simpa using hj')
    rw [show off + 1 + j = off + (j + 1) from by omega, this]
    rw [List.getElem?_map, List.getElem?_eq_getElem hj'] at hj
    simpa [sv] using hj

def nameP (l : List UInt8) : List UInt8 := trim ((parts l 59).headD [])
def fieldsP (l : List UInt8) : List Prm × Int := fieldsS (parts l 59).tail
def okP (l : List UInt8) : Bool := token (nameP l) && ((fieldsP l).2 == 0)

set_option maxHeartbeats 800000 in
theorem fieldsH_c (s : ByteArray) (hs : s.size ≤ 4294967280) (w : World) (hm : Ml w) :
    Calls Tryd.prog 47 #[.string s] w fun e w' => ∃ u, e = .returned (.tuple #[.string (bs (nameP (us s))), u, .bool (okP (us s))]) ∧ RPrms w' u (fieldsP (us s)).1 ∧ Fresh w.heap.size u ∧ Below w.heap.size w w' := by
  have HB := Lib.hid (fun p hp => Nat.le_trans (parts_bd 59 (us s) p hp) (by rw [length_us]; exact hs))
  have HPC := Lib.hid (parts_c s (by omega) 59 w)
  have hne := parts_ne 59 (us s)
  have HM := Lib.hid hm
  clear hm
  have HN := Lib.hid (show nameP (us s) = trim ((parts (us s) 59).headD []) from rfl)
  have HF := Lib.hid (show fieldsP (us s) = fieldsS (parts (us s) 59).tail from rfl)
  have HO := Lib.hid (show okP (us s) = (token (nameP (us s)) && ((fieldsP (us s)).2 == 0)) from rfl)
  obtain ⟨L, hL⟩ : ∃ L, L = parts (us s) 59 := ⟨_, rfl⟩
  rw [← hL] at HB HPC HN HF hne
  clear hL
  obtain ⟨x, r, rfl⟩ : ∃ x r, L = x :: r := by cases L with | nil => exact absurd rfl hne | cons x r => exact ⟨x, r, rfl⟩
  clear hne
  have HTR := Lib.hid (fun wx => trim_c (bs x) (by rw [size_bs]; have := HB.out x (List.mem_cons_self ..); omega) wx)
  rw [us_bs] at HTR
  have hxl := HB.out x (List.mem_cons_self ..)
  have htl := trim_le x
  have HTK := Lib.hid (fun wx => token_c (bs (nameP (us s))) (by rw [size_bs, HN.out]; show (trim x).length ≤ _; omega) wx)
  rw [us_bs] at HTK
  rw [show (trim x) = nameP (us s) from HN.out.symm] at HTR
  have HFC := Lib.hid (fun wx v hx hv => fields_c v r wx hx hv (fun p hp => HB.out p (List.mem_cons_of_mem _ hp)))
  rw [show fieldsS r = fieldsP (us s) from HF.out.symm] at HFC
  clear hxl htl
  obtain ⟨N, hN⟩ : ∃ N, N = nameP (us s) := ⟨_, rfl⟩
  obtain ⟨F, hF⟩ : ∃ F, F = fieldsP (us s) := ⟨_, rfl⟩
  rw [← hN] at HTR HTK HO ⊢
  rw [← hF] at HFC HO ⊢
  clear hN hF HN HF
  obtain ⟨Fl, Fe⟩ := F
  dsimp only at HO HFC ⊢
  go_enter Tryd.func47, Tryd.ntmps47
  cases htk : token N
  all_goals
    rw [htk] at HTK HO; clear htk
    go_wp2_with (first | (go_at_call 38; refine (HPC.out).mono ?_; rintro e w1 ⟨v, rfl, hv, hC⟩; have HV := Lib.hid hv; obtain ⟨ao, cap, rfl, hm1, c1⟩ := hv.form; obtain ⟨b, off, rfl, hb1, hc1⟩ := c1 (by simp); have x0 := hc1 0 (by simp); rw [Nat.add_zero] at x0; have k1 : (0 : Int) < ((x :: r).length : Int) := (by simp); clear hc1 c1; unfold maxLen at hm1) | (go_at_call 37; refine (HTR.out _).mono ?_; rintro e wx ⟨rfl, rfl⟩) | (go_at_call 63; refine (HFC.out _ _ (HM.out.below hC) (by first | exact HV.out.tailB | exact HV.out.tailA (by first | assumption | omega))).mono ?_; rintro e w2 ⟨u, rfl, hu, hF0, hC2⟩; have hF := hF0.mono hC.size; clear hF0; have HU := Lib.hid hu; clear hu; have hB2 := hC.trans (hC2.mono hC.size)) | (go_at_call 40; refine (HTK.out _).mono ?_; rintro e wx ⟨rfl, rfl⟩))
    all_goals
      go_ret3
      exact ⟨_, by rw [HO.out]; rfl, HU.out, hF, hB2⟩
end

section
open Go.RowKit

/-- the box of a struct of two cells, behind a call -/
theorem box2 {w w1 : World} {a b : Value} {t : TypeId} (hC : Below (w.alloc (.cells #[a, b] t)).heap.size (w.alloc (.cells #[a, b] t)) w1) :
    w1.cell? ⟨w.heap.size, 0, none⟩ = some a ∧ w1.cell? ⟨w.heap.size, 1, none⟩ = some b ∧ w1.frozen? ⟨w.heap.size, 0, none⟩ = false ∧ w1.frozen? ⟨w.heap.size, 1, none⟩ = false ∧ w.heap.size < w1.heap.size ∧ Below w.heap.size w w1 := by
  have hs : (w.alloc (.cells #[a, b] t)).heap.size = w.heap.size + 1 := World.size_alloc _ _
  rw [hs] at hC
  have h := boxedAt hC
  exact ⟨boxedCell h 0, boxedCell h 1, boxedFree h 0, boxedFree h 1, by have := hC.size; omega, ((Below.refl _ _).alloc (Nat.le_refl _) _).trans (hC.mono (by omega))⟩
theorem box2n {w1 w2 : World} {g : Nat} {a b : Value} (r0 : w1.cell? ⟨g, 0, none⟩ = some a) (r1 : w1.cell? ⟨g, 1, none⟩ = some b) (f0 : w1.frozen? ⟨g, 0, none⟩ = false) (f1 : w1.frozen? ⟨g, 1, none⟩ = false) (hz : g < w1.heap.size) (hC : Below w1.heap.size w1 w2) :
    w2.cell? ⟨g, 0, none⟩ = some a ∧ w2.cell? ⟨g, 1, none⟩ = some b ∧ w2.frozen? ⟨g, 0, none⟩ = false ∧ w2.frozen? ⟨g, 1, none⟩ = false ∧ g < w2.heap.size :=
  ⟨(hC.cell (p := ⟨g, 0, none⟩) hz).trans r0, (hC.cell (p := ⟨g, 1, none⟩) hz).trans r1, (hC.frozen (p := ⟨g, 0, none⟩) hz).trans f0, (hC.frozen (p := ⟨g, 1, none⟩) hz).trans f1, Nat.lt_of_lt_of_le hz hC.size⟩

/-- an event, as a text says it -/
def evS (l : List UInt8) : (List UInt8 × List Prm) × Int := if okP l = true then ((nameP l, (fieldsP l).1), 0) else (([], []), 81)
theorem evS_yes (l : List UInt8) (h : okP l = true) : evS l = ((nameP l, (fieldsP l).1), 0) := by unfold evS; rw [if_pos h]
theorem evS_no (l : List UInt8) (h : okP l = false) : evS l = (([], []), 81) := by unfold evS; rw [if_neg (by rw [h]; decide)]
def EvPost (l : List UInt8) (w : World) (e : Ending) (w' : World) : Prop :=
  ∃ u, e = .returned (.tuple #[.agg #[.string (bs (evS l).1.1), u], .int .i64 (evS l).2]) ∧ RPrms w' u (evS l).1.2 ∧ Fresh w.heap.size u ∧ Below w.heap.size w w'

set_option maxHeartbeats 800000 in
theorem event_c (s : ByteArray) (hs : s.size ≤ 4294967280) (w : World) (hm : Ml w) :
    Calls Tryd.prog 29 #[.string s] w (EvPost (us s) w) := by
  have HM := Lib.hid hm
  clear hm
  have HH := Lib.hid (fun wx hx => fieldsH_c s hs wx hx)
  have HY := Lib.hid (evS_yes (us s))
  have HN := Lib.hid (evS_no (us s))
  obtain ⟨ok, hok⟩ : ∃ ok, ok = okP (us s) := ⟨_, rfl⟩
  rw [← hok] at HH HY HN
  obtain ⟨N, hN⟩ : ∃ N, N = nameP (us s) := ⟨_, rfl⟩
  obtain ⟨F, hF⟩ : ∃ F, F = fieldsP (us s) := ⟨_, rfl⟩
  rw [← hN] at HH HY
  rw [← hF] at HH HY
  clear hok hN hF
  have hR : Below w.heap.size w w := Below.refl _ _
  cases ok
  · have HE := Lib.hid (HN.out rfl)
    clear HY HN
    go_enter Tryd.func29, Tryd.ntmps29
    go_wp2_with (go_at_call 47; refine (HH.out _ (HM.out.below (hR.alloc (Nat.le_refl _) _))).mono ?_; rintro e w1 ⟨u, rfl, hu, hF0, hC⟩; obtain ⟨r0, r1, f0, f1, hz, hB⟩ := box2 hC; clear hC hu hF0)
    refine bodyPost_ret (v := .tuple #[.agg #[.string ⟨#[]⟩, .slice none 0 0], .int .i64 81]) (by simp [results, Tryd.results29, go_sem, r0, r1]) rfl ?_
    exact ⟨_, by rw [HE.out]; rfl, .inl ⟨⟨_, _, rfl⟩, by rw [HE.out]⟩, Fresh.nil _ _ _, (hB.setCell (Nat.le_refl _) _).setCell (Nat.le_refl _) _⟩
  · have HE := Lib.hid (HY.out rfl)
    clear HY HN
    go_enter Tryd.func29, Tryd.ntmps29
    go_wp2_with (go_at_call 47; refine (HH.out _ (HM.out.below (hR.alloc (Nat.le_refl _) _))).mono ?_; rintro e w1 ⟨u, rfl, hu, hF0, hC⟩; rw [show (w.alloc (.cells #[.string ⟨#[]⟩, .slice none 0 0] 56)).heap.size = w.heap.size + 1 from World.size_alloc _ _] at hF0; obtain ⟨r0, r1, f0, f1, hz, hB⟩ := box2 hC; clear hC; have HU := Lib.hid hu; obtain ⟨ao, cp, rfl, hml, hcl⟩ := hu.form; clear hu hcl)
    refine bodyPost_ret (v := .tuple #[.agg #[.string (bs N), .slice ao F.1.length cp], .int .i64 0]) (by simp [results, Tryd.results29, go_sem, r0, r1]) rfl ?_
    exact ⟨_, by rw [HE.out], by rw [HE.out]; exact (HU.out.set hF0 (Nat.lt_succ_self _) _).set hF0 (Nat.lt_succ_self _) _, hF0.mono (Nat.le_succ _), (hB.setCell (Nat.le_refl _) _).setCell (Nat.le_refl _) _⟩

set_option maxHeartbeats 800000 in
theorem eventR_c (s : ByteArray) (hs : s.size ≤ 4294967280) (w : World) :
    Calls Tryd.prog 30 #[.string s] w (EvPost (us s) w) := by
  have HB := Lib.hid (fun p hp => Nat.le_trans (parts_bd 59 (us s) p hp) (by rw [length_us]; exact hs))
  have HPC := Lib.hid (fun wx => partsR_c s (by omega) 59 wx)
  have hne := parts_ne 59 (us s)
  have HN := Lib.hid (show nameP (us s) = trim ((parts (us s) 59).headD []) from rfl)
  have HF := Lib.hid (show fieldsP (us s) = fieldsS (parts (us s) 59).tail from rfl)
  have HO := Lib.hid (show okP (us s) = (token (nameP (us s)) && ((fieldsP (us s)).2 == 0)) from rfl)
  have HYY := Lib.hid (evS_yes (us s))
  have HNN := Lib.hid (evS_no (us s))
  obtain ⟨L, hL⟩ : ∃ L, L = parts (us s) 59 := ⟨_, rfl⟩
  rw [← hL] at HB HPC HN HF hne
  clear hL
  obtain ⟨x, r, rfl⟩ : ∃ x r, L = x :: r := by cases L with | nil => exact absurd rfl hne | cons x r => exact ⟨x, r, rfl⟩
  clear hne
  have HTR := Lib.hid (fun wx => trimR_c (bs x) (by rw [size_bs]; have := HB.out x (List.mem_cons_self ..); omega) wx)
  rw [us_bs] at HTR
  have hxl := HB.out x (List.mem_cons_self ..)
  have htl := trim_le x
  have HTK := Lib.hid (fun wx => tokenR_c (bs (nameP (us s))) (by rw [size_bs, HN.out]; show (trim x).length ≤ _; omega) wx)
  rw [us_bs] at HTK
  rw [show (trim x) = nameP (us s) from HN.out.symm] at HTR
  have HFC := Lib.hid (fun wx v hv => fieldsR_c v r wx hv (fun p hp => HB.out p (List.mem_cons_of_mem _ hp)))
  rw [show fieldsS r = fieldsP (us s) from HF.out.symm] at HFC
  clear hxl htl
  obtain ⟨N, hN⟩ : ∃ N, N = nameP (us s) := ⟨_, rfl⟩
  obtain ⟨F, hF⟩ : ∃ F, F = fieldsP (us s) := ⟨_, rfl⟩
  rw [← hN] at HTR HTK HO HYY
  rw [← hF] at HFC HO HYY
  clear hN hF HN HF
  obtain ⟨Fl, Fe⟩ := F
  dsimp only at HO HFC HYY
  have hcase : (okP (us s) = false ∧ (token N = false ∨ (token N = true ∧ (Fe != 0) = true))) ∨ (okP (us s) = true ∧ token N = true ∧ (Fe != 0) = false) := by
    rw [HO.out]
    cases token N <;> cases hq : (Fe == 0) <;> simp [bne, hq]
  rcases hcase with ⟨hok, h2⟩ | ⟨hok, htk, hfe⟩
  · have HE := Lib.hid (HNN.out hok)
    clear hok
    rcases h2 with htk | ⟨htk, hfe⟩
    all_goals
      rw [htk] at HTK; clear htk
      go_enter Tryd.func30, Tryd.ntmps30
      go_wp2_with (first | (go_at_call 43; refine (HPC.out _).mono ?_; rintro e w1 ⟨v, rfl, hv, hC⟩; obtain ⟨r0, r1, f0, f1, hz, hB⟩ := box2 hC; clear hC; have HV := Lib.hid hv; obtain ⟨ao, cap, rfl, hm1, c1⟩ := hv.form; obtain ⟨b, off, rfl, hb1, hc1⟩ := c1 (by simp); have x0 := hc1 0 (by simp); rw [Nat.add_zero] at x0; have k1 : (0 : Int) < ((x :: r).length : Int) := (by simp); clear hc1 c1; unfold maxLen at hm1) | (go_at_call 42; refine (HTR.out _).mono ?_; rintro e wx ⟨rfl, rfl⟩) | (go_at_call 54; refine (HFC.out _ _ (by first | exact HV.out.tailB | exact HV.out.tailA (by first | assumption | omega))).mono ?_; rintro e w2 ⟨u, rfl, hu, hF0, hC2⟩; obtain ⟨r0', r1', f0', f1', hz'⟩ := box2n r0 r1 f0 f1 hz hC2; have hB2 := hB.trans (hC2.mono (Nat.le_of_lt hz)); clear hu hF0 hC2) | (go_at_call 45; refine (HTK.out _).mono ?_; rintro e wx ⟨rfl, rfl⟩))
      all_goals
        refine bodyPost_ret (v := .tuple #[.agg #[.string ⟨#[]⟩, .slice none 0 0], .int .i64 81]) (by simp [results, Tryd.results30, go_sem, r0', r1']) rfl ?_
        exact ⟨_, by rw [HE.out]; rfl, .inl ⟨⟨_, _, rfl⟩, by rw [HE.out]⟩, Fresh.nil _ _ _, (hB2.setCell (Nat.le_refl _) _).setCell (Nat.le_refl _) _⟩
  · have HE := Lib.hid (HYY.out hok)
    rw [htk] at HTK; clear htk hok
    go_enter Tryd.func30, Tryd.ntmps30
    go_wp2_with (first | (go_at_call 43; refine (HPC.out _).mono ?_; rintro e w1 ⟨v, rfl, hv, hC⟩; obtain ⟨r0, r1, f0, f1, hz, hB⟩ := box2 hC; clear hC; have HV := Lib.hid hv; obtain ⟨ao, cap, rfl, hm1, c1⟩ := hv.form; obtain ⟨b, off, rfl, hb1, hc1⟩ := c1 (by simp); have x0 := hc1 0 (by simp); rw [Nat.add_zero] at x0; have k1 : (0 : Int) < ((x :: r).length : Int) := (by simp); clear hc1 c1; unfold maxLen at hm1) | (go_at_call 42; refine (HTR.out _).mono ?_; rintro e wx ⟨rfl, rfl⟩) | (go_at_call 54; refine (HFC.out _ _ (by first | exact HV.out.tailB | exact HV.out.tailA (by first | assumption | omega))).mono ?_; rintro e w2 ⟨u, rfl, hu, hF0, hC2⟩; obtain ⟨r0', r1', f0', f1', hz'⟩ := box2n r0 r1 f0 f1 hz hC2; have hB2 := hB.trans (hC2.mono (Nat.le_of_lt hz)); have hF1 := hF0.mono (Nat.succ_le_of_lt hz); clear hC2; have HU := Lib.hid hu; obtain ⟨ao, cp, rfl, hml, hcl⟩ := hu.form; clear hu hcl hF0) | (go_at_call 45; refine (HTK.out _).mono ?_; rintro e wx ⟨rfl, rfl⟩))
    all_goals
      refine bodyPost_ret (v := .tuple #[.agg #[.string (bs N), .slice ao Fl.length cp], .int .i64 0]) (by simp [results, Tryd.results30, go_sem, r0', r1']) rfl ?_
      exact ⟨_, by rw [HE.out], by rw [HE.out]; exact (HU.out.set hF1 (Nat.lt_succ_self _) _).set hF1 (Nat.lt_succ_self _) _, hF1.mono (Nat.le_succ _), (hB2.setCell (Nat.le_refl _) _).setCell (Nat.le_refl _) _⟩
end

section
open Go.RowKit

/-- the text of an event -/
def printS (n : List UInt8) (F : List Prm) : List UInt8 × Int := if token n = false ∨ (textS F).2 ≠ 0 then ([], 81) else (n ++ (textS F).1, 0)
theorem print_cases (N : ByteArray) (F : List Prm) : (token (us N) = false ∧ printS (us N) F = ([], 81)) ∨ (token (us N) = true ∧ ((textS F).2 != 0) = true ∧ printS (us N) F = ([], 81)) ∨
    (token (us N) = true ∧ ((textS F).2 != 0) = false ∧ printS (us N) F = (us N ++ (textS F).1, 0)) := by
  unfold printS
  cases ht : token (us N)
  · exact .inl ⟨rfl, if_pos (.inl rfl)⟩
  refine .inr ?_
  cases hq : ((textS F).2 != 0)
  · refine .inr ⟨rfl, rfl, if_neg ?_⟩
    rintro (h | h)
    · cases h
    · exact h (by simpa using hq)
  · exact .inl ⟨rfl, rfl, if_pos (.inr (by simpa using hq))⟩
theorem textGo_le : ∀ (L done : List Prm) (s : List UInt8), textGo done L = some s → s.length ≤ 200 * L.length
  | [], done, s, h => by rw [textGo] at h; injection h with h; rw [← h]; exact Nat.le_refl _
  | p :: r, done, s, h => by
    rw [textGo] at h
    split at h
    · rename_i hm
      cases hq : textGo (done ++ [p]) r with
      | none => rw [hq] at h; cases h
      | some t =>
        rw [hq] at h
        injection h with h
        have h1 := textGo_le r _ t hq
        have h2 := ptext_le p (mayS_len hm).1 (mayS_len hm).2
        rw [← h, List.length_append, List.length_cons]; omega
    · cases h
theorem textS_le (L : List Prm) : (textS L).1.length ≤ 3200 := by
  unfold textS
  split
  · exact Nat.zero_le _
  · cases h : textGo [] L with
    | none => exact Nat.zero_le _
    | some s => have := textGo_le L [] s h; show s.length ≤ _; omega
def sId : List UInt8 := [105, 100]
/-- are two events one? -/
def isS (n : List UInt8) (F : List Prm) (m : List UInt8) (G : List Prm) : Bool := (n == m) && ((value F sId).2 == (value G sId).2) && ((value F sId).1 == (value G sId).1)
theorem isS_eq (N : ByteArray) (F : List Prm) (M : ByteArray) (G : List Prm) : isS (us N) F (us M) G = ((N.toList == M.toList) && ((value F sId).2 == (value G sId).2) && ((bs (value F sId).1).toList == (bs (value G sId).1).toList)) := by
  unfold isS; simp only [toList_us, us_bs]

set_option maxHeartbeats 1600000 in
theorem print_c (N : ByteArray) (u : Value) (F : List Prm) (hN : N.size ≤ 4294967280) (w : World) (hm : Ml w) (hu : RPrms w u F) (hbd : ∀ p ∈ F, p.name.length ≤ 4294967280 ∧ p.value.length ≤ 4294967280) :
    Calls Tryd.prog 31 #[.agg #[.string N, u]] w fun e w' => e = .returned (.tuple #[.string (bs (printS (us N) F).1), .int .i64 (printS (us N) F).2]) ∧ Below w.heap.size w w' := by
  have HM := Lib.hid hm
  clear hm
  have HU := Lib.hid hu
  obtain ⟨ao, cap, rfl, _, _⟩ := hu.form
  clear hu
  have HT := Lib.hid (fun wx hx hv => text_c (.slice ao F.length cap) F wx hx hv hbd)
  have HK := Lib.hid (fun wx => token_c N (by omega) wx)
  have hP := print_cases N F
  have hl := textS_le F
  obtain ⟨t, ht⟩ : ∃ t, t = textS F := ⟨_, rfl⟩
  rw [← ht] at HT hP hl
  clear ht hbd
  obtain ⟨ts, te⟩ := t
  dsimp only at HT hP hl
  obtain ⟨T, hT⟩ : ∃ T, T = bs ts := ⟨_, rfl⟩
  have hTs : T.size ≤ 3200 := by rw [hT, size_bs]; exact hl
  have HTu := Lib.hid (show ts = us T by rw [hT, us_bs])
  rw [← hT] at HT
  clear hT hl
  rcases hP with ⟨hk, hE⟩ | ⟨hk, hte, hE⟩ | ⟨hk, hte, hE⟩
  all_goals
    have HE := Lib.hid hE
    rw [hk] at HK
    clear hE hk
    go_enter Tryd.func31, Tryd.ntmps31
    go_wp2_with (first | (go_at_call 55; refine (HT.out _ (HM.out.below ((Below.refl _ _).alloc (Nat.le_refl _) _)) (HU.out.below ((Below.refl _ _).alloc (Nat.le_refl _) _) (Nat.le_refl _))).mono ?_; rintro e w1 ⟨rfl, hC⟩; obtain ⟨r0, r1, _, _, hz, hB⟩ := box2 hC; clear hC) | (go_at_call 40; refine (HK.out _).mono ?_; rintro e wx ⟨rfl, rfl⟩))
    go_ret2
    exact ⟨ret_sp (by rw [HE.out]; first | rfl | (rw [us_append, HTu.out])), hB⟩

set_option maxHeartbeats 1600000 in
theorem printR_c (N : ByteArray) (u : Value) (F : List Prm) (hN : N.size ≤ 4294967280) (w : World) (hu : RPrms w u F) (hbd : ∀ p ∈ F, p.name.length ≤ 4294967280 ∧ p.value.length ≤ 4294967280) :
    Calls Tryd.prog 32 #[.agg #[.string N, u]] w fun e w' => e = .returned (.tuple #[.string (bs (printS (us N) F).1), .int .i64 (printS (us N) F).2]) ∧ Below w.heap.size w w' := by
  have HU := Lib.hid hu
  obtain ⟨ao, cap, rfl, _, _⟩ := hu.form
  clear hu
  have HT := Lib.hid (fun wx hv => textR_c (.slice ao F.length cap) F wx hv hbd)
  have HK := Lib.hid (fun wx => tokenR_c N (by omega) wx)
  have hP := print_cases N F
  have hl := textS_le F
  obtain ⟨t, ht⟩ : ∃ t, t = textS F := ⟨_, rfl⟩
  rw [← ht] at HT hP hl
  clear ht hbd
  obtain ⟨ts, te⟩ := t
  dsimp only at HT hP hl
  obtain ⟨T, hT⟩ : ∃ T, T = bs ts := ⟨_, rfl⟩
  have hTs : T.size ≤ 3200 := by rw [hT, size_bs]; exact hl
  have HTu := Lib.hid (show ts = us T by rw [hT, us_bs])
  rw [← hT] at HT
  clear hT hl
  rcases hP with ⟨hk, hE⟩ | ⟨hk, hte, hE⟩ | ⟨hk, hte, hE⟩
  all_goals
    have HE := Lib.hid hE
    rw [hk] at HK
    clear hE hk
    go_enter Tryd.func32, Tryd.ntmps32
    go_wp2_with (first | (go_at_call 56; refine (HT.out _ (HU.out.below ((Below.refl _ _).alloc (Nat.le_refl _) _) (Nat.le_refl _))).mono ?_; rintro e w1 ⟨rfl, hC⟩; obtain ⟨r0, r1, _, _, hz, hB⟩ := box2 hC; clear hC) | (go_at_call 45; refine (HK.out _).mono ?_; rintro e wx ⟨rfl, rfl⟩))
    go_ret2
    exact ⟨ret_sp (by rw [HE.out]; first | rfl | (rw [us_append, HTu.out])), hB⟩

set_option maxHeartbeats 1600000 in
theorem is_c (N : ByteArray) (u : Value) (F : List Prm) (M : ByteArray) (v : Value) (G : List Prm) (w : World) (hu : RPrms w u F) (hv : RPrms w v G) (hbF : ∀ p ∈ F, p.name.length ≤ 4294967280) (hbG : ∀ p ∈ G, p.name.length ≤ 4294967280) :
    Calls Tryd.prog 34 #[.agg #[.string N, u], .agg #[.string M, v]] w fun e w' => e = .returned (.bool (isS (us N) F (us M) G)) ∧ Below w.heap.size w w' := by
  have HU := Lib.hid hu
  have HV := Lib.hid hv
  obtain ⟨ao, cap, rfl, _, _⟩ := hu.form
  obtain ⟨bo, cap', rfl, _, _⟩ := hv.form
  clear hu hv
  have H1 := Lib.hid (fun wx hx => value_c (.slice ao F.length cap) F ⟨#[105, 100]⟩ (by decide) wx hx (fun p hp => by have := hbF p hp; omega))
  have H2 := Lib.hid (fun wx hx => value_c (.slice bo G.length cap') G ⟨#[105, 100]⟩ (by decide) wx hx (fun p hp => by have := hbG p hp; omega))
  have HI := Lib.hid (isS_eq N F M G)
  rw [show us ⟨#[105, 100]⟩ = sId from rfl] at H1 H2
  obtain ⟨p, hp⟩ : ∃ p, p = value F sId := ⟨_, rfl⟩
  rw [← hp] at H1 HI
  obtain ⟨q, hq⟩ : ∃ q, q = value G sId := ⟨_, rfl⟩
  rw [← hq] at H2 HI
  clear hp hq hbF hbG
  obtain ⟨p1, p2⟩ := p
  obtain ⟨q1, q2⟩ := q
  dsimp only at H1 H2 HI
  obtain ⟨P, hP⟩ : ∃ P, P = bs p1 := ⟨_, rfl⟩
  obtain ⟨Q, hQ⟩ : ∃ Q, Q = bs q1 := ⟨_, rfl⟩
  rw [← hP] at H1 HI
  rw [← hQ] at H2 HI
  clear hP hQ
  have hcase : ((N.toList == M.toList) = false) ∨ ((N.toList == M.toList) = true ∧ (p2 == q2) = false) ∨ ((N.toList == M.toList) = true ∧ (p2 == q2) = true) := by
    cases (N.toList == M.toList) <;> cases (p2 == q2) <;> simp
  rcases hcase with e1 | ⟨e1, e2⟩ | ⟨e1, e2⟩
  all_goals
    first | rw [e1, e2] at HI | rw [e1] at HI
    go_enter Tryd.func34, Tryd.ntmps34
    go_wp2_with (first | (go_at_call 48; ((with_reducible refine (H1.out _ (HU.out.below (((Below.refl _ _).alloc (Nat.le_refl _) _).alloc (by rw [World.size_alloc]; omega) _) (Nat.le_refl _))).mono ?_); rintro e w1 ⟨rfl, hC⟩); obtain ⟨D1, hB1', hz1⟩ := newCall hC; have D0 := (Blk.new w 56 #[.string N, .slice ao F.length cap]).call hB1'; rw [World.size_alloc] at D1 hB1' hz1; have hB1 := ((Below.refl w.heap.size w).alloc (Nat.le_refl _) _).trans (hB1'.mono (Nat.le_succ _)); obtain ⟨a0, a1, _, _, hza⟩ := D0.f2; obtain ⟨b0, b1, _, _, hzb⟩ := D1.f2; have HD0 := Lib.hid D0; have HD1 := Lib.hid D1; clear D0 D1 hC hB1') | (go_at_call 48; ((with_reducible refine (H2.out _ (HV.out.below hB1 (Nat.le_refl _))).mono ?_); rintro e w2 ⟨rfl, hC2⟩); have E0 := HD0.out.call hC2; have E1 := HD1.out.call hC2; obtain ⟨c0, c1, _, _, _⟩ := E0.f2; obtain ⟨d0, d1, _, _, _⟩ := E1.f2; have hB2 := hB1.trans (hC2.mono hB1.size); clear E0 E1 hC2))
    go_ret
    exact ⟨ret_bool (by rw [HI.out]; first | rfl | simp), hB2⟩

set_option maxHeartbeats 1600000 in
theorem isR_c (N : ByteArray) (u : Value) (F : List Prm) (M : ByteArray) (v : Value) (G : List Prm) (w : World) (hu : RPrms w u F) (hv : RPrms w v G) (hbF : ∀ p ∈ F, p.name.length ≤ 4294967280) (hbG : ∀ p ∈ G, p.name.length ≤ 4294967280) :
    Calls Tryd.prog 35 #[.agg #[.string N, u], .agg #[.string M, v]] w fun e w' => e = .returned (.bool (isS (us N) F (us M) G)) ∧ Below w.heap.size w w' := by
  have HU := Lib.hid hu
  have HV := Lib.hid hv
  obtain ⟨ao, cap, rfl, _, _⟩ := hu.form
  obtain ⟨bo, cap', rfl, _, _⟩ := hv.form
  clear hu hv
  have H1 := Lib.hid (fun wx hx => valueR_c (.slice ao F.length cap) F ⟨#[105, 100]⟩ (by decide) wx hx (fun p hp => by have := hbF p hp; omega))
  have H2 := Lib.hid (fun wx hx => valueR_c (.slice bo G.length cap') G ⟨#[105, 100]⟩ (by decide) wx hx (fun p hp => by have := hbG p hp; omega))
  have HI := Lib.hid (isS_eq N F M G)
  rw [show us ⟨#[105, 100]⟩ = sId from rfl] at H1 H2
  obtain ⟨p, hp⟩ : ∃ p, p = value F sId := ⟨_, rfl⟩
  rw [← hp] at H1 HI
  obtain ⟨q, hq⟩ : ∃ q, q = value G sId := ⟨_, rfl⟩
  rw [← hq] at H2 HI
  clear hp hq hbF hbG
  obtain ⟨p1, p2⟩ := p
  obtain ⟨q1, q2⟩ := q
  dsimp only at H1 H2 HI
  obtain ⟨P, hP⟩ : ∃ P, P = bs p1 := ⟨_, rfl⟩
  obtain ⟨Q, hQ⟩ : ∃ Q, Q = bs q1 := ⟨_, rfl⟩
  rw [← hP] at H1 HI
  rw [← hQ] at H2 HI
  clear hP hQ
  have hcase : ((N.toList == M.toList) = false) ∨ ((N.toList == M.toList) = true ∧ (p2 == q2) = false) ∨ ((N.toList == M.toList) = true ∧ (p2 == q2) = true) := by
    cases (N.toList == M.toList) <;> cases (p2 == q2) <;> simp
  rcases hcase with e1 | ⟨e1, e2⟩ | ⟨e1, e2⟩
  all_goals
    first | rw [e1, e2] at HI | rw [e1] at HI
    go_enter Tryd.func35, Tryd.ntmps35
    go_wp2_with (first | (go_at_call 49; ((with_reducible refine (H1.out _ (HU.out.below (((Below.refl _ _).alloc (Nat.le_refl _) _).alloc (by rw [World.size_alloc]; omega) _) (Nat.le_refl _))).mono ?_); rintro e w1 ⟨rfl, hC⟩); obtain ⟨D1, hB1', hz1⟩ := newCall hC; have D0 := (Blk.new w 56 #[.string N, .slice ao F.length cap]).call hB1'; rw [World.size_alloc] at D1 hB1' hz1; have hB1 := ((Below.refl w.heap.size w).alloc (Nat.le_refl _) _).trans (hB1'.mono (Nat.le_succ _)); obtain ⟨a0, a1, _, _, hza⟩ := D0.f2; obtain ⟨b0, b1, _, _, hzb⟩ := D1.f2; have HD0 := Lib.hid D0; have HD1 := Lib.hid D1; clear D0 D1 hC hB1') | (go_at_call 49; ((with_reducible refine (H2.out _ (HV.out.below hB1 (Nat.le_refl _))).mono ?_); rintro e w2 ⟨rfl, hC2⟩); have E0 := HD0.out.call hC2; have E1 := HD1.out.call hC2; obtain ⟨c0, c1, _, _, _⟩ := E0.f2; obtain ⟨d0, d1, _, _, _⟩ := E1.f2; have hB2 := hB1.trans (hC2.mono hB1.size); clear E0 E1 hC2))
    go_ret
    exact ⟨ret_bool (by rw [HI.out]; first | rfl | simp), hB2⟩

/-- the same event, as it stands? -/
def evEq (n : List UInt8) (F : List Prm) (m : List UInt8) (G : List Prm) : Bool := (n == m) && (F == G)
theorem sameE_c (N : ByteArray) (u : Value) (F : List Prm) (M : ByteArray) (v : Value) (G : List Prm) (w : World) (hu : RPrms w u F) (hv : RPrms w v G) :
    Calls Tryd.prog 33 #[.agg #[.string N, u], .agg #[.string M, v]] w fun e w' => e = .returned (.bool (evEq (us N) F (us M) G)) ∧ Below w.heap.size w w' := by
  have HU := Lib.hid hu
  have HV := Lib.hid hv
  obtain ⟨ao, cap, rfl, _, _⟩ := hu.form
  obtain ⟨bo, cap', rfl, _, _⟩ := hv.form
  clear hu hv
  have HL := Lib.hid (fun wx hx hy => lists_c (.slice ao F.length cap) (.slice bo G.length cap') F G wx hx hy)
  have HE := Lib.hid (show evEq (us N) F (us M) G = ((N.toList == M.toList) && (F == G)) by unfold evEq; rw [toList_us, toList_us])
  have hR0 : Below w.heap.size w w := Below.refl _ _
  obtain ⟨q, hq⟩ : ∃ q, q = (F == G) := ⟨_, rfl⟩
  rw [← hq] at HL HE
  clear hq
  cases e1 : (N.toList == M.toList)
  all_goals
    rw [e1] at HE
    go_enter Tryd.func33, Tryd.ntmps33
    go_wp2_with (go_at_call 57; refine (HL.out _ (HU.out.below ((hR0.alloc (Nat.le_refl _) _).alloc (by rw [World.size_alloc]; omega) _) (Nat.le_refl _)) (HV.out.below ((hR0.alloc (Nat.le_refl _) _).alloc (by rw [World.size_alloc]; omega) _) (Nat.le_refl _))).mono ?_; rintro e w1 ⟨rfl, hD⟩; replace hR0 := ((hR0.alloc (Nat.le_refl _) _).alloc (by rw [World.size_alloc]; omega) _).trans (hD.below (B := w.heap.size)); clear hD)
    go_ret
    exact ⟨ret_bool (by rw [HE.out]; first | rfl | simp), by first | exact hR0 | exact (hR0.alloc (Nat.le_refl _) _).alloc (by rw [World.size_alloc]; omega) _⟩
end

end Go.Proofs.YteiafgoigfehgaaDoor
