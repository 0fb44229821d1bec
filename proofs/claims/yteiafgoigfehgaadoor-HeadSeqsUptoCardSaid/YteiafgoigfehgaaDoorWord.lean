/-
  addr.word, rosterref05.Word, addr.bad, rosterref05.may.
-/
import Derived.Test.YteiafgoigfehgaaDoorHostD
import Derived.Test.YteiafgoigfehgaaDoorPrmD
namespace Go.Proofs.YteiafgoigfehgaaDoor
open Go.RowKit

/-- may a value stand without quotes? -/
def wordS (l : List UInt8) : Bool := token l || hostS (lowr l)
theorem lowr_length (l : List UInt8) : (lowr l).length = l.length := by unfold lowr; simp
theorem hostS_len (l : List UInt8) (h : l.length = 0 ∨ 64 < l.length) : hostS (lowr l) = false := host_no _ (by rw [lowr_length]; rcases h with h | h <;> simp [h])
theorem word_long (l : List UInt8) (h : l.length = 0 ∨ 64 < l.length) (ht : token l = false) : wordS l = false := by unfold wordS; rw [ht, hostS_len l h]; rfl

set_option maxHeartbeats 800000 in
theorem word_c (s : ByteArray) (hs : s.size ≤ 4294967280) (w : World) (hm : Ml w) :
    Calls Tryd.prog 72 #[.string s] w fun e w' => e = .returned (.bool (wordS (us s))) ∧ Below w.heap.size w w' := by
  have HT := Lib.hid (fun wx => token_c s (by omega) wx)
  have HM := Lib.hid hm
  have hR : Below w.heap.size w w := Below.refl _ _
  have hsz : (bs (lowr (us s))).size = s.size := by rw [size_bs, lowr_length, length_us]
  have HL := Lib.hid (fun wx => lowerP_c s (by omega) wx)
  have HH := Lib.hid (fun wx hx => host_c (bs (lowr (us s))) (by omega) wx hx)
  rw [us_bs] at HH
  have HW := Lib.hid (show wordS (us s) = (token (us s) || hostS (lowr (us s))) from rfl)
  have HZ := Lib.hid (word_long (us s))
  rw [length_us] at HZ
  obtain ⟨lo, hlo⟩ : ∃ lo, lo = bs (lowr (us s)) := ⟨_, rfl⟩
  rw [← hlo] at HL HH
  clear hm hsz hlo
  cases ht : token (us s) with
  | true =>
    rw [ht] at HT HW; clear ht
    go_enter Tryd.func72, Tryd.ntmps72
    go_wp2_with (go_at_call 40; refine (HT.out _).mono ?_; rintro e wx ⟨rfl, rfl⟩)
    go_ret
    exact ⟨ret_bool (by rw [HW.out]; rfl), hR⟩
  | false =>
    have HZ' := Lib.hid (fun h => HZ.out h ht)
    rw [ht] at HT HW; clear ht HZ
    by_cases hz : s.size = 0
    · have HN := Lib.hid (HZ'.out (.inl hz))
      obtain rfl := eq_empty hz
      go_enter Tryd.func72, Tryd.ntmps72
      go_wp2_with (go_at_call 40; refine (HT.out _).mono ?_; rintro e wx ⟨rfl, rfl⟩)
      all_goals
        go_ret
        exact ⟨ret_bool (by rw [HN.out]), hR⟩
    have pE := ne_empty hz
    have pF := isEmpty_f hz
    by_cases h64 : 64 < s.size
    · have HN := Lib.hid (HZ'.out (.inr h64))
      go_enter Tryd.func72, Tryd.ntmps72
      go_wp2_with (go_at_call 40; refine (HT.out _).mono ?_; rintro e wx ⟨rfl, rfl⟩)
      all_goals
        go_ret
        exact ⟨ret_bool (by rw [HN.out]; try (simp; omega)), hR⟩
    · go_enter Tryd.func72, Tryd.ntmps72
      go_wp2_with (first | (go_at_call 40; refine (HT.out _).mono ?_; rintro e wx ⟨rfl, rfl⟩) | (go_at_call 36; refine (HL.out _).mono ?_; rintro e w1 ⟨rfl, hC⟩) | (go_at_call 89; refine (HH.out _ (HM.out.below hC)).mono ?_; rintro e w2 ⟨rfl, hC2⟩))
      go_ret
      exact ⟨ret_bool (by rw [HW.out]; rfl), hC.trans (hC2.mono hC.size)⟩

theorem wordR_c (s : ByteArray) (hs : s.size ≤ 4294967280) (w : World) :
    Calls Tryd.prog 69 #[.string s] w fun e w' => e = .returned (.bool (wordS (us s))) ∧ Below w.heap.size w w' := by
  have HT := Lib.hid (fun wx => tokenR_c s (by omega) wx)
  have hR : Below w.heap.size w w := Below.refl _ _
  have hsz : (bs (lowr (us s))).size = s.size := by rw [size_bs, lowr_length, length_us]
  have HL := Lib.hid (fun wx => lowerR_c s (by omega) wx)
  have HH := Lib.hid (fun wx => hostR_c (bs (lowr (us s))) (by omega) wx)
  rw [us_bs] at HH
  have HW := Lib.hid (show wordS (us s) = (token (us s) || hostS (lowr (us s))) from rfl)
  obtain ⟨lo, hlo⟩ : ∃ lo, lo = bs (lowr (us s)) := ⟨_, rfl⟩
  rw [← hlo] at HL HH
  clear hsz hlo
  cases ht : token (us s) with
  | true =>
    rw [ht] at HT HW; clear ht
    go_enter Tryd.func69, Tryd.ntmps69
    go_wp2_with (go_at_call 45; refine (HT.out _).mono ?_; rintro e wx ⟨rfl, rfl⟩)
    go_ret
    exact ⟨ret_bool (by rw [HW.out]; rfl), hR⟩
  | false =>
    rw [ht] at HT HW; clear ht
    go_enter Tryd.func69, Tryd.ntmps69
    go_wp2_with (first | (go_at_call 45; refine (HT.out _).mono ?_; rintro e wx ⟨rfl, rfl⟩) | (go_at_call 41; refine (HL.out _).mono ?_; rintro e w1 ⟨rfl, hC⟩) | (go_at_call 88; refine (HH.out _).mono ?_; rintro e w2 ⟨rfl, hC2⟩))
    go_ret
    exact ⟨ret_bool (by rw [HW.out]; rfl), hC.trans (hC2.mono hC.size)⟩

/-- may a parameter stand behind others? -/
def mayS (L : List Prm) (p : Prm) : Bool := token p.name && !(value L p.name).2 && decide (p.value.length ≤ 64) && ((quote p.value).2 == 0) && (p.has || p.value == [])
theorem may_token (L : List Prm) (p : Prm) (h : token p.name = false) : mayS L p = false := by unfold mayS; rw [h]; simp
theorem may_twice (L : List Prm) (p : Prm) (h : (value L p.name).2 = true) : mayS L p = false := by unfold mayS; rw [h]; simp
theorem may_long (L : List Prm) (p : Prm) (h : ¬ p.value.length ≤ 64) : mayS L p = false := by unfold mayS; rw [decide_eq_false h]; simp
theorem may_quote (L : List Prm) (p : Prm) (h : ((quote p.value).2 == 0) = false) : mayS L p = false := by unfold mayS; rw [h]; simp
theorem may_has (L : List Prm) (p : Prm) (h : p.has = false) (h' : ¬ p.value = []) : mayS L p = false := by unfold mayS; rw [h]; simp [h']
theorem may_yes (L : List Prm) (p : Prm) (h1 : token p.name = true) (h2 : (value L p.name).2 = false) (h3 : p.value.length ≤ 64) (h4 : ((quote p.value).2 == 0) = true) (h5 : p.has = true ∨ p.value = []) : mayS L p = true := by
  unfold mayS; rw [h1, h2, h4, decide_eq_true h3]
  rcases h5 with h | h <;> simp [h]
theorem place_neg (L : List Prm) (name : List UInt8) : decide (place L name < 0) = !(value L name).2 := by
  unfold place value
  rcases place_value name L 0 with ⟨h1, h2⟩ | ⟨j, hj, h1, h2⟩
  · rw [h1, h2]; rfl
  · rw [h1, h2]; simp

/-- the box of a struct of three cells, behind a call -/
theorem box3 {w w1 : World} {a b c : Value} {t : TypeId} (hC : Below (w.alloc (.cells #[a, b, c] t)).heap.size (w.alloc (.cells #[a, b, c] t)) w1) :
    w1.cell? ⟨w.heap.size, 0, none⟩ = some a ∧ w1.cell? ⟨w.heap.size, 1, none⟩ = some b ∧ w1.cell? ⟨w.heap.size, 2, none⟩ = some c ∧ w.heap.size < w1.heap.size ∧ Below w.heap.size w w1 := by
  have hs : (w.alloc (.cells #[a, b, c] t)).heap.size = w.heap.size + 1 := World.size_alloc _ _
  rw [hs] at hC
  obtain ⟨r0, r1, r2, _⟩ := boxed hC
  refine ⟨r0, r1, r2, by have := hC.size; omega, ((Below.refl _ _).alloc (Nat.le_refl _) _).trans (hC.mono (by omega))⟩
theorem box3n {w1 w2 : World} {g : Nat} {a b c : Value} (r0 : w1.cell? ⟨g, 0, none⟩ = some a) (r1 : w1.cell? ⟨g, 1, none⟩ = some b) (r2 : w1.cell? ⟨g, 2, none⟩ = some c) (hz : g < w1.heap.size) (hC : Below w1.heap.size w1 w2) :
    w2.cell? ⟨g, 0, none⟩ = some a ∧ w2.cell? ⟨g, 1, none⟩ = some b ∧ w2.cell? ⟨g, 2, none⟩ = some c ∧ g < w2.heap.size :=
  ⟨(hC.cell (p := ⟨g, 0, none⟩) hz).trans r0, (hC.cell (p := ⟨g, 1, none⟩) hz).trans r1, (hC.cell (p := ⟨g, 2, none⟩) hz).trans r2, Nat.lt_of_lt_of_le hz hC.size⟩

set_option maxHeartbeats 1600000 in
theorem bad_c (v : Value) (L : List Prm) (p : Prm) (hn : p.name.length ≤ 4294967280) (hv : p.value.length ≤ 4294967280) (w : World) (h1 : RPrms w v L) (hb : ∀ p ∈ L, p.name.length ≤ 140737488355328) :
    Calls Tryd.prog 71 #[v, pv p] w fun e w' => e = .returned (.bool (!mayS L p)) ∧ Below w.heap.size w w' := by
  have F1 := may_token L p
  have F2 := may_twice L p
  have F3 := may_long L p
  have F4 := may_quote L p
  have F5 := may_has L p
  have F6 := may_yes L p
  have HT := Lib.hid (fun wx => token_c (bs p.name) (by rw [size_bs]; omega) wx)
  have HQ := Lib.hid (fun wx => quote_c (bs p.value) (by rw [size_bs]; omega) wx)
  have HV := Lib.hid (fun wx (hx : RPrms wx v L) => value_c v L (bs p.name) (by rw [size_bs]; omega) wx hx hb)
  have H1 := Lib.hid h1
  have hsz : (bs p.value).size = p.value.length := size_bs _
  rw [us_bs] at HT HQ HV
  have hnil : p.value = [] ↔ (bs p.value).size = 0 := by rw [size_bs, List.length_eq_zero_iff]
  rw [hnil] at F5 F6
  rw [← hsz] at F3 F6 hv
  obtain ⟨m, hm⟩ : ∃ m, m = mayS L p := ⟨_, rfl⟩
  rw [← hm] at F1 F2 F3 F4 F5 F6 ⊢
  clear hm hb h1 hsz hnil
  unfold pv sv
  obtain ⟨N, hN⟩ : ∃ N, N = bs p.name := ⟨_, rfl⟩
  obtain ⟨V, hV⟩ : ∃ V, V = bs p.value := ⟨_, rfl⟩
  rw [← hN] at HT HV ⊢
  rw [← hV] at HQ F3 F5 F6 hv ⊢
  obtain ⟨q, hq⟩ : ∃ q, q = quote p.value := ⟨_, rfl⟩
  rw [← hq] at HQ F4 F6
  obtain ⟨tw, htw⟩ : ∃ tw, tw = value L p.name := ⟨_, rfl⟩
  rw [← htw] at HV F2 F6
  obtain ⟨tk, htk⟩ : ∃ tk, tk = token p.name := ⟨_, rfl⟩
  rw [← htk] at HT F1 F6
  obtain ⟨pn, pv, h⟩ := p
  dsimp only at F1 F2 F3 F4 F5 F6 HT HV HQ ⊢
  clear hN hV hq htw htk hn
  obtain ⟨qs, qe⟩ := q
  obtain ⟨tv, tb⟩ := tw
  dsimp only at F2 F4 F6 HQ HV
  have hcase : (tk = false ∧ m = false) ∨ (tk = true ∧ tb = true ∧ m = false) ∨ (tk = true ∧ tb = false ∧ ¬ V.size ≤ 64 ∧ m = false) ∨ (tk = true ∧ tb = false ∧ V.size ≤ 64 ∧ h = false ∧ ¬ V.size = 0 ∧ m = false) ∨
      (tk = true ∧ tb = false ∧ V.size ≤ 64 ∧ h = true ∧ (qe != 0) = m.not) ∨ (tk = true ∧ tb = false ∧ h = false ∧ V.size = 0 ∧ (qe != 0) = m.not) := by
    cases tk
    · exact .inl ⟨rfl, F1 rfl⟩
    refine .inr ?_
    cases tb
    case true => exact .inl ⟨rfl, rfl, F2 rfl⟩
    refine .inr ?_
    by_cases hl : V.size ≤ 64
    case neg => exact .inl ⟨rfl, rfl, hl, F3 hl⟩
    refine .inr ?_
    have hqe : (h = true ∨ V.size = 0) → (qe != 0) = m.not := by
      intro h5
      cases hq : (qe == 0)
      · rw [F4 hq]; simp [bne, hq]
      · rw [F6 rfl rfl hl hq h5]; simp [bne, hq]
    cases h
    · by_cases hz : V.size = 0
      · exact .inr (.inr ⟨rfl, rfl, rfl, hz, hqe (.inr hz)⟩)
      · exact .inl ⟨rfl, rfl, hl, rfl, hz, F5 rfl hz⟩
    · exact .inr (.inl ⟨rfl, rfl, hl, rfl, hqe (.inl rfl)⟩)
  clear F1 F2 F3 F4 F5 F6
  rcases hcase with ⟨rfl, rfl⟩ | ⟨rfl, rfl, rfl⟩ | ⟨rfl, rfl, hl, rfl⟩ | ⟨rfl, rfl, hl, rfl, hz, rfl⟩ | ⟨rfl, rfl, hl, rfl, hqm⟩ | ⟨rfl, rfl, rfl, hz, hqm⟩
  case inr.inr.inr.inr.inl =>
    have HQM := Lib.hid hqm
    cases hqe : (qe != 0)
    all_goals
      clear hqm
      go_enter Tryd.func71, Tryd.ntmps71
      go_wp2_with (first | (go_at_call 40; refine (HT.out _).mono ?_; rintro e wx ⟨rfl, rfl⟩) | (go_at_call 48; refine (HV.out _ (H1.out.below ((Below.refl _ _).alloc (Nat.le_refl _) _) (Nat.le_refl _))).mono ?_; rintro e w1 ⟨rfl, hC⟩; obtain ⟨r0, r1, r2, hz1, hB1⟩ := box3 hC; clear hC) | (go_at_call 73; refine (HQ.out _).mono ?_; rintro e w2 ⟨rfl, hC2⟩; obtain ⟨r0', r1', r2', hz2⟩ := box3n r0 r1 r2 hz1 hC2; have hB2 := hB1.trans (hC2.mono (Nat.le_of_lt hz1)); clear hC2))
      go_ret
      exact ⟨ret_bool (by rw [← HQM.out, hqe]; try (simp; omega)), hB2⟩
  case inr.inr.inr.inr.inr =>
    have HQM := Lib.hid hqm
    obtain rfl := eq_empty hz
    clear hz
    cases hqe : (qe != 0)
    all_goals
      clear hqm
      go_enter Tryd.func71, Tryd.ntmps71
      go_wp2_with (first | (go_at_call 40; refine (HT.out _).mono ?_; rintro e wx ⟨rfl, rfl⟩) | (go_at_call 48; refine (HV.out _ (H1.out.below ((Below.refl _ _).alloc (Nat.le_refl _) _) (Nat.le_refl _))).mono ?_; rintro e w1 ⟨rfl, hC⟩; obtain ⟨r0, r1, r2, hz1, hB1⟩ := box3 hC; clear hC) | (go_at_call 73; refine (HQ.out _).mono ?_; rintro e w2 ⟨rfl, hC2⟩; obtain ⟨r0', r1', r2', hz2⟩ := box3n r0 r1 r2 hz1 hC2; have hB2 := hB1.trans (hC2.mono (Nat.le_of_lt hz1)); clear hC2))
      go_ret
      exact ⟨ret_bool (by rw [← HQM.out, hqe]; try (simp; omega)), hB2⟩
  case inr.inr.inr.inl =>
    have pE := ne_empty hz
    have pF := isEmpty_f hz
    go_enter Tryd.func71, Tryd.ntmps71
    go_wp2_with (first | (go_at_call 40; refine (HT.out _).mono ?_; rintro e wx ⟨rfl, rfl⟩) | (go_at_call 48; refine (HV.out _ (H1.out.below ((Below.refl _ _).alloc (Nat.le_refl _) _) (Nat.le_refl _))).mono ?_; rintro e w1 ⟨rfl, hC⟩; obtain ⟨r0, r1, r2, hz1, hB1⟩ := box3 hC; clear hC) | (go_at_call 73; refine (HQ.out _).mono ?_; rintro e w2 ⟨rfl, hC2⟩; obtain ⟨r0', r1', r2', hz2⟩ := box3n r0 r1 r2 hz1 hC2; have hB2 := hB1.trans (hC2.mono (Nat.le_of_lt hz1)); clear hC2))
    go_ret
    exact ⟨ret_bool rfl, hB2⟩
  all_goals
    go_enter Tryd.func71, Tryd.ntmps71
    go_wp2_with (first | (go_at_call 40; refine (HT.out _).mono ?_; rintro e wx ⟨rfl, rfl⟩) | (go_at_call 48; refine (HV.out _ (H1.out.below ((Below.refl _ _).alloc (Nat.le_refl _) _) (Nat.le_refl _))).mono ?_; rintro e w1 ⟨rfl, hC⟩; obtain ⟨r0, r1, r2, hz1, hB1⟩ := box3 hC; clear hC) | (go_at_call 73; refine (HQ.out _).mono ?_; rintro e w2 ⟨rfl, hC2⟩; obtain ⟨r0', r1', r2', hz2⟩ := box3n r0 r1 r2 hz1 hC2; have hB2 := hB1.trans (hC2.mono (Nat.le_of_lt hz1)); clear hC2))
    go_ret
    exact ⟨ret_bool (by first | rfl | simp), hB2⟩

set_option maxHeartbeats 1600000 in
theorem mayR_c (v : Value) (L : List Prm) (p : Prm) (hn : p.name.length ≤ 4294967280) (hv : p.value.length ≤ 4294967280) (w : World) (h1 : RPrms w v L) (hb : ∀ p ∈ L, p.name.length ≤ 140737488355328) :
    Calls Tryd.prog 70 #[v, pv p] w fun e w' => e = .returned (.bool (mayS L p)) ∧ Below w.heap.size w w' := by
  have F1 := may_token L p
  have F2 := may_twice L p
  have F3 := may_long L p
  have F4 := may_quote L p
  have F5 := may_has L p
  have F6 := may_yes L p
  have HT := Lib.hid (fun wx => tokenR_c (bs p.name) (by rw [size_bs]; omega) wx)
  have HQ := Lib.hid (fun wx => quoteR_c (bs p.value) (by rw [size_bs]; omega) wx)
  have HV := Lib.hid (fun wx (hx : RPrms wx v L) => place_c v L (bs p.name) (by rw [size_bs]; omega) wx hx hb)
  have H1 := Lib.hid h1
  have hsz : (bs p.value).size = p.value.length := size_bs _
  rw [us_bs] at HT HQ HV
  have hnil : p.value = [] ↔ (bs p.value).size = 0 := by rw [size_bs, List.length_eq_zero_iff]
  rw [hnil] at F5 F6
  rw [← hsz] at F3 F6 hv
  obtain ⟨m, hm⟩ : ∃ m, m = mayS L p := ⟨_, rfl⟩
  rw [← hm] at F1 F2 F3 F4 F5 F6 ⊢
  clear hm hb h1 hsz hnil
  unfold pv sv
  obtain ⟨N, hN⟩ : ∃ N, N = bs p.name := ⟨_, rfl⟩
  obtain ⟨V, hV⟩ : ∃ V, V = bs p.value := ⟨_, rfl⟩
  rw [← hN] at HT HV ⊢
  rw [← hV] at HQ F3 F5 F6 hv ⊢
  obtain ⟨q, hq⟩ : ∃ q, q = quote p.value := ⟨_, rfl⟩
  rw [← hq] at HQ F4 F6
  have hpl := place_neg L p.name
  obtain ⟨tw, htw⟩ : ∃ tw, tw = value L p.name := ⟨_, rfl⟩
  rw [← htw] at hpl F2 F6
  obtain ⟨pl, hplx⟩ : ∃ pl, pl = place L p.name := ⟨_, rfl⟩
  rw [← hplx] at HV hpl
  obtain ⟨tk, htk⟩ : ∃ tk, tk = token p.name := ⟨_, rfl⟩
  rw [← htk] at HT F1 F6
  obtain ⟨pn, pv, h⟩ := p
  dsimp only at F1 F2 F3 F4 F5 F6 HT HV HQ ⊢
  clear hN hV hq htw htk hn hplx
  obtain ⟨qs, qe⟩ := q
  obtain ⟨tv, tb⟩ := tw
  dsimp only at F2 F4 F6 HQ hpl
  have hcase : (tk = false ∧ m = false) ∨ (tk = true ∧ ¬ pl < 0 ∧ m = false) ∨ (tk = true ∧ pl < 0 ∧ ¬ V.size ≤ 64 ∧ m = false) ∨ (tk = true ∧ pl < 0 ∧ V.size ≤ 64 ∧ (qe == 0) = false ∧ m = false) ∨
      (tk = true ∧ pl < 0 ∧ V.size ≤ 64 ∧ (qe == 0) = true ∧ h = true ∧ m = true) ∨ (tk = true ∧ pl < 0 ∧ V.size ≤ 64 ∧ (qe == 0) = true ∧ h = false ∧ ¬ V.size = 0 ∧ m = false) ∨ (tk = true ∧ pl < 0 ∧ (qe == 0) = true ∧ h = false ∧ V.size = 0 ∧ m = true) := by
    cases tk
    · exact .inl ⟨rfl, F1 rfl⟩
    refine .inr ?_
    by_cases hp : pl < 0
    case neg => exact .inl ⟨rfl, hp, F2 (by rw [decide_eq_false hp] at hpl; simpa using hpl.symm)⟩
    have htb : tb = false := by rw [decide_eq_true hp] at hpl; simpa using hpl.symm
    refine .inr ?_
    by_cases hl : V.size ≤ 64
    case neg => exact .inl ⟨rfl, hp, hl, F3 hl⟩
    refine .inr ?_
    cases hq : (qe == 0)
    · exact .inl ⟨rfl, hp, hl, rfl, F4 hq⟩
    refine .inr ?_
    cases h
    · refine .inr ?_
      by_cases hz : V.size = 0
      · exact .inr ⟨rfl, hp, rfl, rfl, hz, F6 rfl htb hl hq (.inr hz)⟩
      · exact .inl ⟨rfl, hp, hl, rfl, rfl, hz, F5 rfl hz⟩
    · exact .inl ⟨rfl, hp, hl, rfl, rfl, F6 rfl htb hl hq (.inl rfl)⟩
  clear F1 F2 F3 F4 F5 F6 hpl
  rcases hcase with ⟨rfl, rfl⟩ | ⟨rfl, hp, rfl⟩ | ⟨rfl, hp, hl, rfl⟩ | ⟨rfl, hp, hl, hqe, rfl⟩ | ⟨rfl, hp, hl, hqe, rfl, rfl⟩ | ⟨rfl, hp, hl, hqe, rfl, hz, rfl⟩ | ⟨rfl, hp, hqe, rfl, hz, rfl⟩
  case inr.inr.inr.inr.inr.inl =>
    have pE := ne_empty hz
    have pF := isEmpty_f hz
    go_enter Tryd.func70, Tryd.ntmps70
    go_wp2_with (first | (go_at_call 45; refine (HT.out _).mono ?_; rintro e wx ⟨rfl, rfl⟩) | (go_at_call 65; refine (HV.out _ (H1.out.below hB1 (Nat.le_refl _))).mono ?_; rintro e w2 ⟨rfl, hC2⟩; obtain ⟨r0', r1', r2', hz2⟩ := box3n r0 r1 r2 hz1 hC2; have hB2 := hB1.trans (hC2.mono (Nat.le_of_lt hz1)); clear hC2) | (go_at_call 74; refine (HQ.out _).mono ?_; rintro e w1 ⟨rfl, hC⟩; obtain ⟨r0, r1, r2, hz1, hB1⟩ := box3 hC; clear hC))
    go_ret
    exact ⟨ret_bool (by first | rfl | simp), hB2⟩
  case inr.inr.inr.inr.inr.inr =>
    obtain rfl := eq_empty hz
    clear hz
    go_enter Tryd.func70, Tryd.ntmps70
    go_wp2_with (first | (go_at_call 45; refine (HT.out _).mono ?_; rintro e wx ⟨rfl, rfl⟩) | (go_at_call 65; refine (HV.out _ (H1.out.below hB1 (Nat.le_refl _))).mono ?_; rintro e w2 ⟨rfl, hC2⟩; obtain ⟨r0', r1', r2', hz2⟩ := box3n r0 r1 r2 hz1 hC2; have hB2 := hB1.trans (hC2.mono (Nat.le_of_lt hz1)); clear hC2) | (go_at_call 74; refine (HQ.out _).mono ?_; rintro e w1 ⟨rfl, hC⟩; obtain ⟨r0, r1, r2, hz1, hB1⟩ := box3 hC; clear hC))
    go_ret
    exact ⟨ret_bool (by first | rfl | simp), hB2⟩
  case inl =>
    go_enter Tryd.func70, Tryd.ntmps70
    go_wp2_with (first | (go_at_call 45; refine (HT.out _).mono ?_; rintro e wx ⟨rfl, rfl⟩) | (go_at_call 65; refine (HV.out _ (H1.out.below hB1 (Nat.le_refl _))).mono ?_; rintro e w2 ⟨rfl, hC2⟩; obtain ⟨r0', r1', r2', hz2⟩ := box3n r0 r1 r2 hz1 hC2; have hB2 := hB1.trans (hC2.mono (Nat.le_of_lt hz1)); clear hC2) | (go_at_call 74; refine (HQ.out _).mono ?_; rintro e w1 ⟨rfl, hC⟩; obtain ⟨r0, r1, r2, hz1, hB1⟩ := box3 hC; clear hC))
    go_ret
    exact ⟨ret_bool (by first | rfl | simp), hB1⟩
  all_goals
    go_enter Tryd.func70, Tryd.ntmps70
    go_wp2_with (first | (go_at_call 45; refine (HT.out _).mono ?_; rintro e wx ⟨rfl, rfl⟩) | (go_at_call 65; refine (HV.out _ (H1.out.below hB1 (Nat.le_refl _))).mono ?_; rintro e w2 ⟨rfl, hC2⟩; obtain ⟨r0', r1', r2', hz2⟩ := box3n r0 r1 r2 hz1 hC2; have hB2 := hB1.trans (hC2.mono (Nat.le_of_lt hz1)); clear hC2) | (go_at_call 74; refine (HQ.out _).mono ?_; rintro e w1 ⟨rfl, hC⟩; obtain ⟨r0, r1, r2, hz1, hB1⟩ := box3 hC; clear hC))
    go_ret
    exact ⟨ret_bool (by first | rfl | simp | (simp; omega)), hB2⟩

end Go.Proofs.YteiafgoigfehgaaDoor
