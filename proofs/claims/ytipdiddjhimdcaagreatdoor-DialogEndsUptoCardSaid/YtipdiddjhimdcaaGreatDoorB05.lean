/-
  Packed: XFld.
-/
import Derived.Test.YtipdiddjhimdcaaGreatDoorB04
namespace Go.Proofs.YtipdiddjhimdcaaGreatDoor

section
open Go.RowKit

/-- may a value stand without quotes? -/
def wordS (l : List UInt8) : Bool := token l || hostS (lowr l)
theorem lowr_length (l : List UInt8) : (lowr l).length = l.length := by unfold lowr; simp
theorem hostS_len (l : List UInt8) (h : l.length = 0 ∨ 64 < l.length) : hostS (lowr l) = false := host_no _ (by rw [lowr_length]; rcases h with h | h <;> simp [h])
theorem word_long (l : List UInt8) (h : l.length = 0 ∨ 64 < l.length) (ht : token l = false) : wordS l = false := by unfold wordS; rw [ht, hostS_len l h]; rfl

set_option maxHeartbeats 800000 in
theorem word_c (s : ByteArray) (hs : s.size ≤ 4294967280) (w : World) (hm : Ml w) :
    Calls Tryz.prog 114 #[.string s] w fun e w' => e = .returned (.bool (wordS (us s))) ∧ Below w.heap.size w w' := by
  have HT := Lib.hid (fun wx => token_c s (by omega) wx)
  have HM := Lib.hid hm
  have hR : Below w.heap.size w w := Below.refl _ _
  have hsz : (bs (lowr (us s))).size = s.size := by rw [size_bs, lowr_length, length_us]
  have HL := Lib.hid (fun wx => lowerP_c s (by omega) wx)
  have HH := Lib.hid (fun wx hx => host_c (bs (lowr (us s))) (by omega) wx hx)
  rw [us_bs] at HH
  have HW := Lib.hid (show wordS (us s) = (token (us s) || hostS (lowr (us s))) from rfl)
  have HZ := Lib.hid (word_long (us s))
  rw [length_us] at HZ
  obtain ⟨lo, hlo⟩ : ∃ lo, lo = bs (lowr (us s)) := ⟨_, rfl⟩
  rw [← hlo] at HL HH
  clear hm hsz hlo
  cases ht : token (us s) with
  | true =>
    rw [ht] at HT HW; clear ht
    go_enter Tryz.func114, Tryz.ntmps114
    go_wp2_with (go_at_call 31; refine (HT.out _).mono ?_; rintro e wx ⟨rfl, rfl⟩)
    go_ret
    exact ⟨ret_bool (by rw [HW.out]; rfl), hR⟩
  | false =>
    have HZ' := Lib.hid (fun h => HZ.out h ht)
    rw [ht] at HT HW; clear ht HZ
    by_cases hz : s.size = 0
    · have HN := Lib.hid (HZ'.out (.inl hz))
      obtain rfl := eq_empty hz
      go_enter Tryz.func114, Tryz.ntmps114
      go_wp2_with (go_at_call 31; refine (HT.out _).mono ?_; rintro e wx ⟨rfl, rfl⟩)
      all_goals
        go_ret
        exact ⟨ret_bool (by rw [HN.out]), hR⟩
    have pE := ne_empty hz
    have pF := isEmpty_f hz
    by_cases h64 : 64 < s.size
    · have HN := Lib.hid (HZ'.out (.inr h64))
      go_enter Tryz.func114, Tryz.ntmps114
      go_wp2_with (go_at_call 31; refine (HT.out _).mono ?_; rintro e wx ⟨rfl, rfl⟩)
      all_goals
        go_ret
        exact ⟨ret_bool (by rw [HN.out]; try (simp; omega)), hR⟩
    · go_enter Tryz.func114, Tryz.ntmps114
      go_wp2_with (first | (go_at_call 31; refine (HT.out _).mono ?_; rintro e wx ⟨rfl, rfl⟩) | (go_at_call 96; refine (HL.out _).mono ?_; rintro e w1 ⟨rfl, hC⟩) | (go_at_call 141; refine (HH.out _ (HM.out.below hC)).mono ?_; rintro e w2 ⟨rfl, hC2⟩))
      go_ret
      exact ⟨ret_bool (by rw [HW.out]; rfl), hC.trans (hC2.mono hC.size)⟩

theorem wordR_c (s : ByteArray) (hs : s.size ≤ 4294967280) (w : World) :
    Calls Tryz.prog 168 #[.string s] w fun e w' => e = .returned (.bool (wordS (us s))) ∧ Below w.heap.size w w' := by
  have HT := Lib.hid (fun wx => tokenR_c s (by omega) wx)
  have hR : Below w.heap.size w w := Below.refl _ _
  have hsz : (bs (lowr (us s))).size = s.size := by rw [size_bs, lowr_length, length_us]
  have HL := Lib.hid (fun wx => lowerR_c s (by omega) wx)
  have HH := Lib.hid (fun wx => hostR_c (bs (lowr (us s))) (by omega) wx)
  rw [us_bs] at HH
  have HW := Lib.hid (show wordS (us s) = (token (us s) || hostS (lowr (us s))) from rfl)
  obtain ⟨lo, hlo⟩ : ∃ lo, lo = bs (lowr (us s)) := ⟨_, rfl⟩
  rw [← hlo] at HL HH
  clear hsz hlo
  cases ht : token (us s) with
  | true =>
    rw [ht] at HT HW; clear ht
    go_enter Tryz.func168, Tryz.ntmps168
    go_wp2_with (go_at_call 65; refine (HT.out _).mono ?_; rintro e wx ⟨rfl, rfl⟩)
    go_ret
    exact ⟨ret_bool (by rw [HW.out]; rfl), hR⟩
  | false =>
    rw [ht] at HT HW; clear ht
    go_enter Tryz.func168, Tryz.ntmps168
    go_wp2_with (first | (go_at_call 65; refine (HT.out _).mono ?_; rintro e wx ⟨rfl, rfl⟩) | (go_at_call 123; refine (HL.out _).mono ?_; rintro e w1 ⟨rfl, hC⟩) | (go_at_call 165; refine (HH.out _).mono ?_; rintro e w2 ⟨rfl, hC2⟩))
    go_ret
    exact ⟨ret_bool (by rw [HW.out]; rfl), hC.trans (hC2.mono hC.size)⟩

/-- may a parameter stand behind others? -/
def mayS (L : List Prm) (p : Prm) : Bool := token p.name && !(value L p.name).2 && decide (p.value.length ≤ 64) && ((quote p.value).2 == 0) && (p.has || p.value == [])
theorem may_token (L : List Prm) (p : Prm) (h : token p.name = false) : mayS L p = false := by unfold mayS; rw [h]; simp
theorem may_twice (L : List Prm) (p : Prm) (h : (value L p.name).2 = true) : mayS L p = false := by unfold mayS; rw [h]; simp
theorem may_long (L : List Prm) (p : Prm) (h : ¬ p.value.length ≤ 64) : mayS L p = false := by unfold mayS; rw [decide_eq_false h]; simp
theorem may_quote (L : List Prm) (p : Prm) (h : ((quote p.value).2 == 0) = false) : mayS L p = false := by unfold mayS; rw [h]; simp
theorem may_has (L : List Prm) (p : Prm) (h : p.has = false) (h' : ¬ p.value = []) : mayS L p = false := by unfold mayS; rw [h]; simp [h']
theorem may_yes (L : List Prm) (p : Prm) (h1 : token p.name = true) (h2 : (value L p.name).2 = false) (h3 : p.value.length ≤ 64) (h4 : ((quote p.value).2 == 0) = true) (h5 : p.has = true ∨ p.value = []) : mayS L p = true := by
  unfold mayS; rw [h1, h2, h4, decide_eq_true h3]
  rcases h5 with h | h <;> simp [h]
theorem place_neg (L : List Prm) (name : List UInt8) : decide (place L name < 0) = !(value L name).2 := by
  unfold place value
  rcases place_value name L 0 with ⟨h1, h2⟩ | ⟨j, hj, h1, h2⟩
  · rw [h1, h2]; rfl
  · rw [h1, h2]; simp

/-- the box of a struct of three cells, behind a call -/
theorem box3 {w w1 : World} {a b c : Value} {t : TypeId} (hC : Below (w.alloc (.cells #[a, b, c] t)).heap.size (w.alloc (.cells #[a, b, c] t)) w1) :
    w1.cell? ⟨w.heap.size, 0, none⟩ = some a ∧ w1.cell? ⟨w.heap.size, 1, none⟩ = some b ∧ w1.cell? ⟨w.heap.size, 2, none⟩ = some c ∧ w.heap.size < w1.heap.size ∧ Below w.heap.size w w1 := by
  have hs : (w.alloc (.cells #[a, b, c] t)).heap.size = w.heap.size + 1 := World.size_alloc _ _
  rw [hs] at hC
  obtain ⟨r0, r1, r2, _⟩ := boxed hC
  refine ⟨r0, r1, r2, by have := hC.size; omega, ((Below.refl _ _).alloc (Nat.le_refl _) _).trans (hC.mono (by omega))⟩
theorem box3n {w1 w2 : World} {g : Nat} {a b c : Value} (r0 : w1.cell? ⟨g, 0, none⟩ = some a) (r1 : w1.cell? ⟨g, 1, none⟩ = some b) (r2 : w1.cell? ⟨g, 2, none⟩ = some c) (hz : g < w1.heap.size) (hC : Below w1.heap.size w1 w2) :
    w2.cell? ⟨g, 0, none⟩ = some a ∧ w2.cell? ⟨g, 1, none⟩ = some b ∧ w2.cell? ⟨g, 2, none⟩ = some c ∧ g < w2.heap.size :=
  ⟨(hC.cell (p := ⟨g, 0, none⟩) hz).trans r0, (hC.cell (p := ⟨g, 1, none⟩) hz).trans r1, (hC.cell (p := ⟨g, 2, none⟩) hz).trans r2, Nat.lt_of_lt_of_le hz hC.size⟩

set_option maxHeartbeats 1600000 in
theorem bad_c (v : Value) (L : List Prm) (p : Prm) (hn : p.name.length ≤ 4294967280) (hv : p.value.length ≤ 4294967280) (w : World) (h1 : RPrms w v L) (hb : ∀ p ∈ L, p.name.length ≤ 140737488355328) :
    Calls Tryz.prog 115 #[v, pv p] w fun e w' => e = .returned (.bool (!mayS L p)) ∧ Below w.heap.size w w' := by
  have F1 := may_token L p
  have F2 := may_twice L p
  have F3 := may_long L p
  have F4 := may_quote L p
  have F5 := may_has L p
  have F6 := may_yes L p
  have HT := Lib.hid (fun wx => token_c (bs p.name) (by rw [size_bs]; omega) wx)
  have HQ := Lib.hid (fun wx => quote_c (bs p.value) (by rw [size_bs]; omega) wx)
  have HV := Lib.hid (fun wx (hx : RPrms wx v L) => value_c v L (bs p.name) (by rw [size_bs]; omega) wx hx hb)
  have H1 := Lib.hid h1
  have hsz : (bs p.value).size = p.value.length := size_bs _
  rw [us_bs] at HT HQ HV
  have hnil : p.value = [] ↔ (bs p.value).size = 0 := by rw [size_bs, List.length_eq_zero_iff]
  rw [hnil] at F5 F6
  rw [← hsz] at F3 F6 hv
  obtain ⟨m, hm⟩ : ∃ m, m = mayS L p := ⟨_, rfl⟩
  rw [← hm] at F1 F2 F3 F4 F5 F6 ⊢
  clear hm hb h1 hsz hnil
  unfold pv sv
  obtain ⟨N, hN⟩ : ∃ N, N = bs p.name := ⟨_, rfl⟩
  obtain ⟨V, hV⟩ : ∃ V, V = bs p.value := ⟨_, rfl⟩
  rw [← hN] at HT HV ⊢
  rw [← hV] at HQ F3 F5 F6 hv ⊢
  obtain ⟨q, hq⟩ : ∃ q, q = quote p.value := ⟨_, rfl⟩
  rw [← hq] at HQ F4 F6
  obtain ⟨tw, htw⟩ : ∃ tw, tw = value L p.name := ⟨_, rfl⟩
  rw [← htw] at HV F2 F6
  obtain ⟨tk, htk⟩ : ∃ tk, tk = token p.name := ⟨_, rfl⟩
  rw [← htk] at HT F1 F6
  obtain ⟨pn, pv, h⟩ := p
  dsimp only at F1 F2 F3 F4 F5 F6 HT HV HQ ⊢
  clear hN hV hq htw htk hn
  obtain ⟨qs, qe⟩ := q
  obtain ⟨tv, tb⟩ := tw
  dsimp only at F2 F4 F6 HQ HV
  have hcase : (tk = false ∧ m = false) ∨ (tk = true ∧ tb = true ∧ m = false) ∨ (tk = true ∧ tb = false ∧ ¬ V.size ≤ 64 ∧ m = false) ∨ (tk = true ∧ tb = false ∧ V.size ≤ 64 ∧ h = false ∧ ¬ V.size = 0 ∧ m = false) ∨
      (tk = true ∧ tb = false ∧ V.size ≤ 64 ∧ h = true ∧ (qe != 0) = m.not) ∨ (tk = true ∧ tb = false ∧ h = false ∧ V.size = 0 ∧ (qe != 0) = m.not) := by
    cases tk
    · exact .inl ⟨rfl, F1 rfl⟩
    refine .inr ?_
    cases tb
    case true => exact .inl ⟨rfl, rfl, F2 rfl⟩
    refine .inr ?_
    by_cases hl : V.size ≤ 64
    case neg => exact .inl ⟨rfl, rfl, hl, F3 hl⟩
    refine .inr ?_
    have hqe : (h = true ∨ V.size = 0) → (qe != 0) = m.not := by
      intro h5
      cases hq : (qe == 0)
      · rw [F4 hq]; simp [bne, hq]
      · rw [F6 rfl rfl hl hq h5]; simp [bne, hq]
    cases h
    · by_cases hz : V.size = 0
      · exact .inr (.inr ⟨rfl, rfl, rfl, hz, hqe (.inr hz)⟩)
      · exact .inl ⟨rfl, rfl, hl, rfl, hz, F5 rfl hz⟩
    · exact .inr (.inl ⟨rfl, rfl, hl, rfl, hqe (.inl rfl)⟩)
  clear F1 F2 F3 F4 F5 F6
  rcases hcase with ⟨rfl, rfl⟩ | ⟨rfl, rfl, rfl⟩ | ⟨rfl, rfl, hl, rfl⟩ | ⟨rfl, rfl, hl, rfl, hz, rfl⟩ | ⟨rfl, rfl, hl, rfl, hqm⟩ | ⟨rfl, rfl, rfl, hz, hqm⟩
  case inr.inr.inr.inr.inl =>
    have HQM := Lib.hid hqm
    cases hqe : (qe != 0)
    all_goals
      clear hqm
      go_enter Tryz.func115, Tryz.ntmps115
      go_wp2_with (first | (go_at_call 31; refine (HT.out _).mono ?_; rintro e wx ⟨rfl, rfl⟩) | (go_at_call 63; refine (HV.out _ (H1.out.below ((Below.refl _ _).alloc (Nat.le_refl _) _) (Nat.le_refl _))).mono ?_; rintro e w1 ⟨rfl, hC⟩; obtain ⟨r0, r1, r2, hz1, hB1⟩ := box3 hC; clear hC) | (go_at_call 80; refine (HQ.out _).mono ?_; rintro e w2 ⟨rfl, hC2⟩; obtain ⟨r0', r1', r2', hz2⟩ := box3n r0 r1 r2 hz1 hC2; have hB2 := hB1.trans (hC2.mono (Nat.le_of_lt hz1)); clear hC2))
      go_ret
      exact ⟨ret_bool (by rw [← HQM.out, hqe]; try (simp; omega)), hB2⟩
  case inr.inr.inr.inr.inr =>
    have HQM := Lib.hid hqm
    obtain rfl := eq_empty hz
    clear hz
    cases hqe : (qe != 0)
    all_goals
      clear hqm
      go_enter Tryz.func115, Tryz.ntmps115
      go_wp2_with (first | (go_at_call 31; refine (HT.out _).mono ?_; rintro e wx ⟨rfl, rfl⟩) | (go_at_call 63; refine (HV.out _ (H1.out.below ((Below.refl _ _).alloc (Nat.le_refl _) _) (Nat.le_refl _))).mono ?_; rintro e w1 ⟨rfl, hC⟩; obtain ⟨r0, r1, r2, hz1, hB1⟩ := box3 hC; clear hC) | (go_at_call 80; refine (HQ.out _).mono ?_; rintro e w2 ⟨rfl, hC2⟩; obtain ⟨r0', r1', r2', hz2⟩ := box3n r0 r1 r2 hz1 hC2; have hB2 := hB1.trans (hC2.mono (Nat.le_of_lt hz1)); clear hC2))
      go_ret
      exact ⟨ret_bool (by rw [← HQM.out, hqe]; try (simp; omega)), hB2⟩
  case inr.inr.inr.inl =>
    have pE := ne_empty hz
    have pF := isEmpty_f hz
    go_enter Tryz.func115, Tryz.ntmps115
    go_wp2_with (first | (go_at_call 31; refine (HT.out _).mono ?_; rintro e wx ⟨rfl, rfl⟩) | (go_at_call 63; refine (HV.out _ (H1.out.below ((Below.refl _ _).alloc (Nat.le_refl _) _) (Nat.le_refl _))).mono ?_; rintro e w1 ⟨rfl, hC⟩; obtain ⟨r0, r1, r2, hz1, hB1⟩ := box3 hC; clear hC) | (go_at_call 80; refine (HQ.out _).mono ?_; rintro e w2 ⟨rfl, hC2⟩; obtain ⟨r0', r1', r2', hz2⟩ := box3n r0 r1 r2 hz1 hC2; have hB2 := hB1.trans (hC2.mono (Nat.le_of_lt hz1)); clear hC2))
    go_ret
    exact ⟨ret_bool rfl, hB2⟩
  all_goals
    go_enter Tryz.func115, Tryz.ntmps115
    go_wp2_with (first | (go_at_call 31; refine (HT.out _).mono ?_; rintro e wx ⟨rfl, rfl⟩) | (go_at_call 63; refine (HV.out _ (H1.out.below ((Below.refl _ _).alloc (Nat.le_refl _) _) (Nat.le_refl _))).mono ?_; rintro e w1 ⟨rfl, hC⟩; obtain ⟨r0, r1, r2, hz1, hB1⟩ := box3 hC; clear hC) | (go_at_call 80; refine (HQ.out _).mono ?_; rintro e w2 ⟨rfl, hC2⟩; obtain ⟨r0', r1', r2', hz2⟩ := box3n r0 r1 r2 hz1 hC2; have hB2 := hB1.trans (hC2.mono (Nat.le_of_lt hz1)); clear hC2))
    go_ret
    exact ⟨ret_bool (by first | rfl | simp), hB2⟩

set_option maxHeartbeats 1600000 in
theorem mayR_c (v : Value) (L : List Prm) (p : Prm) (hn : p.name.length ≤ 4294967280) (hv : p.value.length ≤ 4294967280) (w : World) (h1 : RPrms w v L) (hb : ∀ p ∈ L, p.name.length ≤ 140737488355328) :
    Calls Tryz.prog 167 #[v, pv p] w fun e w' => e = .returned (.bool (mayS L p)) ∧ Below w.heap.size w w' := by
  have F1 := may_token L p
  have F2 := may_twice L p
  have F3 := may_long L p
  have F4 := may_quote L p
  have F5 := may_has L p
  have F6 := may_yes L p
  have HT := Lib.hid (fun wx => tokenR_c (bs p.name) (by rw [size_bs]; omega) wx)
  have HQ := Lib.hid (fun wx => quoteR_c (bs p.value) (by rw [size_bs]; omega) wx)
  have HV := Lib.hid (fun wx (hx : RPrms wx v L) => place_c v L (bs p.name) (by rw [size_bs]; omega) wx hx hb)
  have H1 := Lib.hid h1
  have hsz : (bs p.value).size = p.value.length := size_bs _
  rw [us_bs] at HT HQ HV
  have hnil : p.value = [] ↔ (bs p.value).size = 0 := by rw [size_bs, List.length_eq_zero_iff]
  rw [hnil] at F5 F6
  rw [← hsz] at F3 F6 hv
  obtain ⟨m, hm⟩ : ∃ m, m = mayS L p := ⟨_, rfl⟩
  rw [← hm] at F1 F2 F3 F4 F5 F6 ⊢
  clear hm hb h1 hsz hnil
  unfold pv sv
  obtain ⟨N, hN⟩ : ∃ N, N = bs p.name := ⟨_, rfl⟩
  obtain ⟨V, hV⟩ : ∃ V, V = bs p.value := ⟨_, rfl⟩
  rw [← hN] at HT HV ⊢
  rw [← hV] at HQ F3 F5 F6 hv ⊢
  obtain ⟨q, hq⟩ : ∃ q, q = quote p.value := ⟨_, rfl⟩
  rw [← hq] at HQ F4 F6
  have hpl := place_neg L p.name
  obtain ⟨tw, htw⟩ : ∃ tw, tw = value L p.name := ⟨_, rfl⟩
  rw [← htw] at hpl F2 F6
  obtain ⟨pl, hplx⟩ : ∃ pl, pl = place L p.name := ⟨_, rfl⟩
  rw [← hplx] at HV hpl
  obtain ⟨tk, htk⟩ : ∃ tk, tk = token p.name := ⟨_, rfl⟩
  rw [← htk] at HT F1 F6
  obtain ⟨pn, pv, h⟩ := p
  dsimp only at F1 F2 F3 F4 F5 F6 HT HV HQ ⊢
  clear hN hV hq htw htk hn hplx
  obtain ⟨qs, qe⟩ := q
  obtain ⟨tv, tb⟩ := tw
  dsimp only at F2 F4 F6 HQ hpl
  have hcase : (tk = false ∧ m = false) ∨ (tk = true ∧ ¬ pl < 0 ∧ m = false) ∨ (tk = true ∧ pl < 0 ∧ ¬ V.size ≤ 64 ∧ m = false) ∨ (tk = true ∧ pl < 0 ∧ V.size ≤ 64 ∧ (qe == 0) = false ∧ m = false) ∨
      (tk = true ∧ pl < 0 ∧ V.size ≤ 64 ∧ (qe == 0) = true ∧ h = true ∧ m = true) ∨ (tk = true ∧ pl < 0 ∧ V.size ≤ 64 ∧ (qe == 0) = true ∧ h = false ∧ ¬ V.size = 0 ∧ m = false) ∨ (tk = true ∧ pl < 0 ∧ (qe == 0) = true ∧ h = false ∧ V.size = 0 ∧ m = true) := by
    cases tk
    · exact .inl ⟨rfl, F1 rfl⟩
    refine .inr ?_
    by_cases hp : pl < 0
    case neg => exact .inl ⟨rfl, hp, F2 (by rw [decide_eq_false hp] at hpl; simpa using hpl.symm)⟩
    have htb : tb = false := by rw [decide_eq_true hp] at hpl; simpa using hpl.symm
    refine .inr ?_
    by_cases hl : V.size ≤ 64
    case neg => exact .inl ⟨rfl, hp, hl, F3 hl⟩
    refine .inr ?_
    cases hq : (qe == 0)
    · exact .inl ⟨rfl, hp, hl, rfl, F4 hq⟩
    refine .inr ?_
    cases h
    · refine .inr ?_
      by_cases hz : V.size = 0
      · exact .inr ⟨rfl, hp, rfl, rfl, hz, F6 rfl htb hl hq (.inr hz)⟩
      · exact .inl ⟨rfl, hp, hl, rfl, rfl, hz, F5 rfl hz⟩
    · exact .inl ⟨rfl, hp, hl, rfl, rfl, F6 rfl htb hl hq (.inl rfl)⟩
  clear F1 F2 F3 F4 F5 F6 hpl
  rcases hcase with ⟨rfl, rfl⟩ | ⟨rfl, hp, rfl⟩ | ⟨rfl, hp, hl, rfl⟩ | ⟨rfl, hp, hl, hqe, rfl⟩ | ⟨rfl, hp, hl, hqe, rfl, rfl⟩ | ⟨rfl, hp, hl, hqe, rfl, hz, rfl⟩ | ⟨rfl, hp, hqe, rfl, hz, rfl⟩
  case inr.inr.inr.inr.inr.inl =>
    have pE := ne_empty hz
    have pF := isEmpty_f hz
    go_enter Tryz.func167, Tryz.ntmps167
    go_wp2_with (first | (go_at_call 65; refine (HT.out _).mono ?_; rintro e wx ⟨rfl, rfl⟩) | (go_at_call 169; refine (HV.out _ (H1.out.below hB1 (Nat.le_refl _))).mono ?_; rintro e w2 ⟨rfl, hC2⟩; obtain ⟨r0', r1', r2', hz2⟩ := box3n r0 r1 r2 hz1 hC2; have hB2 := hB1.trans (hC2.mono (Nat.le_of_lt hz1)); clear hC2) | (go_at_call 118; refine (HQ.out _).mono ?_; rintro e w1 ⟨rfl, hC⟩; obtain ⟨r0, r1, r2, hz1, hB1⟩ := box3 hC; clear hC))
    go_ret
    exact ⟨ret_bool (by first | rfl | simp), hB2⟩
  case inr.inr.inr.inr.inr.inr =>
    obtain rfl := eq_empty hz
    clear hz
    go_enter Tryz.func167, Tryz.ntmps167
    go_wp2_with (first | (go_at_call 65; refine (HT.out _).mono ?_; rintro e wx ⟨rfl, rfl⟩) | (go_at_call 169; refine (HV.out _ (H1.out.below hB1 (Nat.le_refl _))).mono ?_; rintro e w2 ⟨rfl, hC2⟩; obtain ⟨r0', r1', r2', hz2⟩ := box3n r0 r1 r2 hz1 hC2; have hB2 := hB1.trans (hC2.mono (Nat.le_of_lt hz1)); clear hC2) | (go_at_call 118; refine (HQ.out _).mono ?_; rintro e w1 ⟨rfl, hC⟩; obtain ⟨r0, r1, r2, hz1, hB1⟩ := box3 hC; clear hC))
    go_ret
    exact ⟨ret_bool (by first | rfl | simp), hB2⟩
  case inl =>
    go_enter Tryz.func167, Tryz.ntmps167
    go_wp2_with (first | (go_at_call 65; refine (HT.out _).mono ?_; rintro e wx ⟨rfl, rfl⟩) | (go_at_call 169; refine (HV.out _ (H1.out.below hB1 (Nat.le_refl _))).mono ?_; rintro e w2 ⟨rfl, hC2⟩; obtain ⟨r0', r1', r2', hz2⟩ := box3n r0 r1 r2 hz1 hC2; have hB2 := hB1.trans (hC2.mono (Nat.le_of_lt hz1)); clear hC2) | (go_at_call 118; refine (HQ.out _).mono ?_; rintro e w1 ⟨rfl, hC⟩; obtain ⟨r0, r1, r2, hz1, hB1⟩ := box3 hC; clear hC))
    go_ret
    exact ⟨ret_bool (by first | rfl | simp), hB1⟩
  all_goals
    go_enter Tryz.func167, Tryz.ntmps167
    go_wp2_with (first | (go_at_call 65; refine (HT.out _).mono ?_; rintro e wx ⟨rfl, rfl⟩) | (go_at_call 169; refine (HV.out _ (H1.out.below hB1 (Nat.le_refl _))).mono ?_; rintro e w2 ⟨rfl, hC2⟩; obtain ⟨r0', r1', r2', hz2⟩ := box3n r0 r1 r2 hz1 hC2; have hB2 := hB1.trans (hC2.mono (Nat.le_of_lt hz1)); clear hC2) | (go_at_call 118; refine (HQ.out _).mono ?_; rintro e w1 ⟨rfl, hC⟩; obtain ⟨r0, r1, r2, hz1, hB1⟩ := box3 hC; clear hC))
    go_ret
    exact ⟨ret_bool (by first | rfl | simp | (simp; omega)), hB2⟩
end

section
open Go.RowKit

/-- a slice of parameters of the call's own -/
def Prms (w : World) (base : Nat) (v : Value) (L : List Prm) : Prop := w.ownsRow base 85 3 v L.length (L.flatMap Prm.cells)
theorem Prms.nil (w : World) (base : Nat) : Prms w base (.slice none 0 0) [] := World.ownsRow_nil w base _ 3
theorem flat_at : ∀ (L : List Prm) (j : Nat) (hj : j < L.length) (i : Nat), i < 3 → (L.flatMap Prm.cells)[j * 3 + i]? = L[j].cells[i]?
  | p :: r, 0, _, i, hi => by
    rw [List.flatMap_cons, Nat.zero_mul, Nat.zero_add, List.getElem?_append_left (by simpa [Prm.cells] using hi)]; rfl
  | p :: r, j + 1, hj, i, hi => by
    rw [List.flatMap_cons, List.getElem?_append_right (by simp [Prm.cells]; omega)]
    have : (j + 1) * 3 + i - p.cells.length = j * 3 + i := by simp [Prm.cells]; omega
    rw [this]
    exact flat_at r j (by simpa using hj) i hi
theorem RPrms.of_row {w : World} {v : Value} {L : List Prm} (h : RRow w v L.length (L.flatMap Prm.cells)) : RPrms w v L := by
  rcases h with ⟨h1, h2, _⟩ | ⟨b, off, cap, h1, h2, h2', h3, h4⟩
  · exact .inl ⟨h1, List.eq_nil_of_length_eq_zero h2⟩
  · refine .inr ⟨b, off, cap, h1, h2, h2', h3, fun j hj => ⟨?_, ?_, ?_⟩⟩
    · exact h4 (j * 3) _ (flat_at L j hj 0 (by decide))
    · exact h4 (j * 3 + 1) _ (flat_at L j hj 1 (by decide))
    · exact h4 (j * 3 + 2) _ (flat_at L j hj 2 (by decide))
theorem Prms.read {w : World} {base : Nat} {v : Value} {L : List Prm} (h : Prms w base v L) : RPrms w v L := RPrms.of_row (RRow.of_own h)
theorem Prms.below {w w' : World} {base B : Nat} {v : Value} {L : List Prm} (h : Prms w base v L) (hB : Below B w w') (hs : w.heap.size ≤ B) : Prms w' base v L := by
  refine ⟨h.1, ?_⟩
  rcases h.2 with hn | ⟨g, cap, cur, rfl, hb, hgg, rest⟩
  · exact .inl hn
  · refine .inr ⟨g, cap, cur, rfl, hb, ?_, rest⟩
    have hlt := (Array.getElem?_eq_some_iff.1 hgg).1
    rw [hB.block g (by omega)]; exact hgg
/-- a slice value that lies from block B on, or nowhere -/
def Fresh (B : Nat) (u : Value) : Prop := ∀ a n c, u = .slice (some a) n c → B ≤ a.block
theorem Fresh.nil (B n c : Nat) : Fresh B (.slice none n c) := fun _ _ _ h => by cases h
theorem Fresh.mono {B B' : Nat} {u : Value} (h : Fresh B u) (hB : B' ≤ B) : Fresh B' u := fun a n c e => Nat.le_trans hB (h a n c e)
theorem Prms.fresh {w : World} {base : Nat} {v : Value} {L : List Prm} (h : Prms w base v L) : Fresh base v := by
  rcases h.2 with ⟨rfl, _⟩ | ⟨g, cap, cur, rfl, hb, _⟩
  · exact Fresh.nil _ _ _
  · intro a n c e
    injection e with e
    injection e with e
    rw [← e]; exact hb
theorem RPrms.set {w : World} {B : Nat} {u : Value} {L : List Prm} (h : RPrms w u L) (hF : Fresh B u) {p : Addr} (hp : p.block < B) (x : Value) : RPrms (w.setCell p x) u L := by
  rcases h with h | ⟨b, off, cap, h1, h2, h2', h3, h4⟩
  · exact .inl h
  · refine .inr ⟨b, off, cap, h1, h2, h2', by simpa using h3, fun j hj => ?_⟩
    have hne : B ≤ b := hF ⟨b, off, none⟩ _ _ h1
    have hk : ∀ o, (w.setCell p x).cell? ⟨b, o, none⟩ = w.cell? ⟨b, o, none⟩ := fun o => World.cell?_setCell_other w p ⟨b, o, none⟩ x (fun e => by rw [e] at hp; exact absurd hp (by show ¬ b < B; omega))
    rw [hk, hk, hk]
    exact h4 j hj
theorem infoP : infoIs Tryz.prog 85 (.agg #[.string ⟨#[]⟩, .string ⟨#[]⟩, .bool false]) 3 40 := by unfold infoIs; kernel_rfl

section
variable {P : Program} {ops : Array Oper} {rest : List Oper} {o : Oper} {a : Act} {Q : Exit → Act → World → Prop}
theorem wpList_appP1 {wE w : World} {base : Nat} {t : TypeId} {v : Value} {L : List Prm} {s x : Operand} {N V : ByteArray} {h : Bool} (p : Prm) (hN : us N = p.name) (hV : us V = p.value) (hh : h = p.has)
    (hgd : o.guard = none) (ho : o.op = .call { callee := .builtin .append, args := #[s, x], argTypes := #[t, t] })
    (ht : P.underlying t = some (.slice 85)) (hi : infoIs P 85 (.agg #[.string ⟨#[]⟩, .string ⟨#[]⟩, .bool false]) 3 40)
    (hx : a.eval x = .slice (some ⟨w.heap.size, 0, none⟩) 1 1) (hs : a.eval s = v) (hown : Prms w base v L) (hB : Below base wE w) (hbase : base ≤ wE.heap.size)
    (hbd : (L.length + 1) * 40 ≤ 140737488355328)
    (hk : ∀ v' w', Prms w' base v' (L ++ [p]) → Below base wE w' → wpList P ops Q rest (a.put o.dst v') w') :
    wpList P ops Q (o :: rest) a (w.alloc (.cells #[.string N, .string V, .bool h] 85)) := by
  subst hh
  refine wpList_app hgd ho ht hi rfl (by decide) hx hs hown hB hbase rfl (by simp; exact ⟨rfl, rfl, rfl⟩) (by decide) hbd ?_
  intro v' w' h1 h2 _ _
  refine hk v' w' ?_ h2
  unfold Prms
  have e : L.flatMap Prm.cells ++ #[Value.string N, Value.string V, Value.bool p.has].toList = (L ++ [p]).flatMap Prm.cells := by
    rw [List.flatMap_append]; simp [Prm.cells, sv, ← hN, ← hV]
  rw [← e, List.length_append]; exact h1
end

/-- a parameter that may stand behind others -/
def chk (L : List Prm) (p : Prm) : Option Prm := if mayS L p = true then some p else none
/-- the parameter that a part of a text is -/
def fieldOf (L : List Prm) (n0 v0 : List UInt8) (has : Bool) : Option Prm :=
  if opens 34 (trim v0) = true then (if (unquote (trim v0)).2 = 0 then chk L ⟨trim n0, (unquote (trim v0)).1, has⟩ else none)
  else if has = true ∧ wordS (trim v0) = false then none else chk L ⟨trim n0, trim v0, has⟩
def field (L : List Prm) (x : List UInt8) : Option Prm := fieldOf L (cutb 61 x).1 (cutb 61 x).2.1 (cutb 61 x).2.2
def fieldsGo (L : List Prm) : List (List UInt8) → Option (List Prm)
  | [] => some L
  | x :: r => (field L x).bind fun p => fieldsGo (L ++ [p]) r
def okL (e : Int) : Option (List Prm) → List Prm × Int
  | some r => (r, 0)
  | none => ([], e)
/-- the parameters that some parts are -/
def fieldsS (parts : List (List UInt8)) : List Prm × Int := if 16 < parts.length then ([], 4) else okL 34 (fieldsGo [] parts)

theorem unqGo_len : ∀ (l r : List UInt8), unqGo l = some r → r.length ≤ l.length
  | [], r, h => by unfold unqGo at h; injection h with h; rw [← h]; exact Nat.le_refl _
  | [c], r, h => by
    unfold unqGo at h
    split at h
    · injection h with h; rw [← h]; exact Nat.le_refl _
    · cases h
  | c :: d :: t, r, h => by
    unfold unqGo at h
    split at h
    · split at h
      · cases h
      · cases hq : unqGo t with
        | none => rw [hq] at h; cases h
        | some y => rw [hq] at h; injection h with h; rw [← h]; have := unqGo_len t y hq; simp; omega
    · split at h
      · cases hq : unqGo (d :: t) with
        | none => rw [hq] at h; cases h
        | some y => rw [hq] at h; injection h with h; rw [← h]; have := unqGo_len (d :: t) y hq; simp at this ⊢; omega
      · cases h
theorem unquote_len (l : List UInt8) : (unquote l).1.length ≤ l.length := by
  unfold unquote
  split
  · exact Nat.zero_le _
  · cases hq : unqGo ((l.drop 1).take (l.length - 2)) with
    | none => exact Nat.zero_le _
    | some y =>
      have := unqGo_len _ _ hq
      rw [List.length_take, List.length_drop] at this
      show y.length ≤ _
      omega
theorem mayS_len {L : List Prm} {p : Prm} (h : mayS L p = true) : p.name.length ≤ 64 ∧ p.value.length ≤ 64 := by
  unfold mayS token at h
  simp only [Bool.and_eq_true, decide_eq_true_eq] at h
  exact ⟨h.1.1.1.1.1.2, h.1.1.2⟩
theorem fields_step (L : List Prm) (Ps : List (List UInt8)) (k : Nat) (h : k < Ps.length) (hp : fieldsGo [] Ps = fieldsGo L (Ps.drop k)) : fieldsGo [] Ps = (field L Ps[k]).bind fun p => fieldsGo (L ++ [p]) (Ps.drop (k + 1)) := by
  rw [hp, List.drop_eq_getElem_cons h, fieldsGo]
theorem fields_bad (Ps : List (List UInt8)) (h16 : Ps.length ≤ 16) (h : fieldsGo [] Ps = none) : fieldsS Ps = ([], 34) := by
  unfold fieldsS; rw [if_neg (by omega), h]; rfl
theorem fields_end (L : List Prm) (Ps : List (List UInt8)) (h16 : Ps.length ≤ 16) (hp : fieldsGo [] Ps = fieldsGo L (Ps.drop Ps.length)) : fieldsS Ps = (L, 0) := by
  unfold fieldsS; rw [if_neg (by omega), hp, List.drop_length]; rfl
end

section
open Go.RowKit

/-- the box of a struct of three cells, behind a store to its middle and a call -/
theorem box3s {w2 w3 : World} {g : Nat} {a b c x : Value} (r0 : w2.cell? ⟨g, 0, none⟩ = some a) (r1 : w2.cell? ⟨g, 1, none⟩ = some b) (r2 : w2.cell? ⟨g, 2, none⟩ = some c) (hz : g < w2.heap.size)
    (hC : Below (w2.setCell ⟨g, 1, none⟩ x).heap.size (w2.setCell ⟨g, 1, none⟩ x) w3) :
    w3.cell? ⟨g, 0, none⟩ = some a ∧ w3.cell? ⟨g, 1, none⟩ = some x ∧ w3.cell? ⟨g, 2, none⟩ = some c ∧ g < w3.heap.size ∧ Below g w2 w3 := by
  have hs : (w2.setCell ⟨g, 1, none⟩ x).heap.size = w2.heap.size := by simp
  rw [hs] at hC
  refine ⟨?_, ?_, ?_, Nat.lt_of_lt_of_le hz (hs ▸ hC.size), ((Below.refl _ _).setCell (Nat.le_refl _) _).trans (hC.mono (Nat.le_of_lt hz))⟩
  · rw [hC.cell (p := ⟨g, 0, none⟩) hz, World.cell?_setCell_other w2 ⟨g, 1, none⟩ ⟨g, 0, none⟩ x (fun e => by injection e with _ e; cases e)]; exact r0
  · rw [hC.cell (p := ⟨g, 1, none⟩) hz]; exact World.cell?_setCell_same _ _ _ r1
  · rw [hC.cell (p := ⟨g, 2, none⟩) hz, World.cell?_setCell_other w2 ⟨g, 1, none⟩ ⟨g, 2, none⟩ x (fun e => by injection e with _ e; cases e)]; exact r2
theorem box3f {w w1 : World} {a b c : Value} {t : TypeId} (hC : Below (w.alloc (.cells #[a, b, c] t)).heap.size (w.alloc (.cells #[a, b, c] t)) w1) : w1.frozen? ⟨w.heap.size, 1, none⟩ = false := by
  have hs : (w.alloc (.cells #[a, b, c] t)).heap.size = w.heap.size + 1 := World.size_alloc _ _
  rw [hs] at hC
  exact (boxed hC).2.2.2.2.1

set_option maxRecDepth 100000 in
set_option maxHeartbeats 3200000 in
theorem fields_c (v0 : Value) (Ps : List (List UInt8)) (w : World) (hm : Ml w) (hv : RStrs w v0 Ps) (hbd : ∀ x ∈ Ps, x.length ≤ 4294967280) :
    Calls Tryz.prog 62 #[v0] w fun e w' => ∃ u, e = .returned (.tuple #[u, .int .i64 (fieldsS Ps).2]) ∧ RPrms w' u (fieldsS Ps).1 ∧ Fresh w.heap.size u ∧ Below w.heap.size w w' := by
  obtain ⟨ao, cap, rfl, hm1, c1⟩ := hv.form
  have C1 := Lib.hid c1
  have HBD := Lib.hid hbd
  have HM := Lib.hid hm
  clear c1 hv hbd hm
  unfold maxLen at hm1
  by_cases h16 : 16 < Ps.length
  · have HN := Lib.hid (show fieldsS Ps = ([], 4) by unfold fieldsS; rw [if_pos h16])
    go_enter Tryz.func62, Tryz.ntmps62
    go_wp2
    go_ret2
    exact ⟨_, by rw [HN.out]; rfl, .inl ⟨⟨_, _, rfl⟩, by rw [HN.out]⟩, Fresh.nil _ _ _, Below.refl _ _⟩
  have HFB := Lib.hid (fields_bad Ps (by omega))
  have HFE := Lib.hid (fun L => fields_end L Ps (by omega))
  go_enter Tryz.func62, Tryz.ntmps62
  go_wp2
  go_loopw [4, 19] (fun vo i wr => ∃ (k : Nat) (L : List Prm), k ≤ Ps.length ∧ i = .int .i64 k ∧ Prms wr w.heap.size vo L ∧ L.length ≤ k ∧ (∀ p ∈ L, p.name.length ≤ 64) ∧ fieldsGo [] Ps = fieldsGo L (Ps.drop k) ∧ Below w.heap.size w wr) (fun _ i _ => Ps.length - (intOf i).toNat)
  case atStart => exact ⟨0, [], Nat.zero_le _, rfl, Prms.nil _ _, Nat.le_refl _, by simp, rfl, Below.refl _ _⟩
  case round =>
    obtain ⟨k, L, hk, rfl, hown, hl, hbl, hp, hB⟩ := hrel
    have HBL := Lib.hid hbl; clear hbl
    by_cases hlt : k < Ps.length
    · have hst := fields_step L Ps k hlt hp
      obtain ⟨b, off, rfl, hb1, hc1⟩ := C1.out (by omega)
      have x1 : wr.cell? ⟨b, off + k, none⟩ = some (.string (bs Ps[k])) := by
        rw [hB.cell (p := ⟨b, off + k, none⟩) hb1]; exact hc1 k hlt
      have k0 : (0 : Int) ≤ (k : Int) := by omega
      have k1 : (k : Int) < (Ps.length : Int) := by omega
      have hxs := HBD.out _ (List.getElem_mem hlt)
      clear hc1 hp
      unfold field at hst
      have hcl := cutb_le 61 Ps[k]
      have hmr := HM.out.below hB
      have HCT := Lib.hid (cut_c (bs Ps[k]) (by rw [size_bs]; omega) 61 wr hmr)
      rw [us_bs] at HCT
      obtain ⟨c, hc⟩ : ∃ c, c = cutb 61 Ps[k] := ⟨_, rfl⟩
      rw [← hc] at HCT hst hcl
      clear hc
      obtain ⟨n0, vv, has⟩ := c
      dsimp only at hst hcl
      have HT1 := Lib.hid (fun wx => trim_c (bs n0) (by rw [size_bs]; omega) wx)
      have HT2 := Lib.hid (fun wx => trim_c (bs vv) (by rw [size_bs]; omega) wx)
      have ht1 := trim_le n0
      have ht2 := trim_le vv
      rw [us_bs] at HT1 HT2
      unfold fieldOf at hst
      obtain ⟨nm, hnm⟩ : ∃ nm, nm = trim n0 := ⟨_, rfl⟩
      obtain ⟨va, hva⟩ : ∃ va, va = trim vv := ⟨_, rfl⟩
      rw [← hnm] at HT1 hst ht1
      rw [← hva] at HT2 hst ht2
      clear hnm hva
      have HP := Lib.hid (fun wx => prefix_c (bs va) 34 wx)
      rw [us_bs] at HP
      have HMr := Lib.hid hmr
      have HO := Lib.hid hown
      have HB := Lib.hid hB
      clear hmr hown hB
      cases hq : opens 34 va with
      | true =>
        rw [hq] at hst HP
        rw [if_pos rfl] at hst
        clear hq
        have HU := Lib.hid (fun wx => unquote_c (bs va) (by rw [size_bs]; omega) wx)
        rw [us_bs] at HU
        have hul := unquote_len va
        obtain ⟨qp, hqp⟩ : ∃ qp, qp = unquote va := ⟨_, rfl⟩
        rw [← hqp] at HU hst hul
        clear hqp
        obtain ⟨t, qe⟩ := qp
        dsimp only at HU hst hul
        have HC1 := Lib.hid (fun wx hx => bad_c u4 L ⟨nm, t, has⟩ (by dsimp only; omega) (by dsimp only; omega) wx hx (fun p hp => by have := HBL.out p hp; omega))
        unfold pv sv at HC1
        dsimp only at HC1
        cases hqe : (qe != 0) with
        | true =>
          rw [if_neg (by simpa using hqe)] at hst
          have HN := Lib.hid (HFB.out hst)
          clear hst
          go_wp2_with (first | (go_at_call 47; refine (HCT.out).mono ?_; rintro e w1 ⟨rfl, hD⟩; have ho1 := HO.out.below (hD.below (B := wr.heap.size)) (Nat.le_refl _); have hb1' := HB.out.trans (hD.below (B := w.heap.size))) | (go_at_call 50; (first | ((with_reducible refine (HT1.out _).mono ?_); rintro e wx ⟨rfl, rfl⟩) | ((with_reducible refine (HT2.out _).mono ?_); rintro e wx ⟨rfl, rfl⟩))) | (go_at_call 104; refine (HP.out _).mono ?_; rintro e wx ⟨rfl, rfl⟩) | (go_at_call 105; refine (HU.out _).mono ?_; rintro e w2 ⟨rfl, hC⟩; have hf := box3f hC; obtain ⟨r0, r1, r2, hz1, hB1⟩ := box3 hC; clear hC; have hb2 := hb1'.trans (hB1.mono hb1'.size)))
          go_ret2
          exact ⟨_, by rw [HN.out]; rfl, .inl ⟨⟨_, _, rfl⟩, by rw [HN.out]⟩, Fresh.nil _ _ _, hb2⟩
        | false =>
          rw [if_pos (by simpa using hqe)] at hst
          cases has with
          | true =>
            unfold chk at hst
            cases hmay : mayS L ⟨nm, t, true⟩ with
            | false =>
              rw [hmay, if_neg (by decide)] at hst
              have HN := Lib.hid (HFB.out hst)
              rw [hmay] at HC1
              clear hst hmay
              go_wp2_with (first | (go_at_call 47; refine (HCT.out).mono ?_; rintro e w1 ⟨rfl, hD⟩; have ho1 := HO.out.below (hD.below (B := wr.heap.size)) (Nat.le_refl _); have hb1' := HB.out.trans (hD.below (B := w.heap.size))) | (go_at_call 50; (first | ((with_reducible refine (HT1.out _).mono ?_); rintro e wx ⟨rfl, rfl⟩) | ((with_reducible refine (HT2.out _).mono ?_); rintro e wx ⟨rfl, rfl⟩))) | (go_at_call 104; refine (HP.out _).mono ?_; rintro e wx ⟨rfl, rfl⟩) | (go_at_call 105; refine (HU.out _).mono ?_; rintro e w2 ⟨rfl, hC⟩; have hf := box3f hC; obtain ⟨r0, r1, r2, hz1, hB1⟩ := box3 hC; clear hC; have hb2 := hb1'.trans (hB1.mono hb1'.size)) | (go_at_call 115; refine (HC1.out _ (ho1.read.below (hB1.setCell (Nat.le_refl _) _) (Nat.le_refl _))).mono ?_; rintro e w3 ⟨rfl, hC2⟩; obtain ⟨r0', r1', r2', hz2, hB2⟩ := box3s r0 r1 r2 hz1 hC2; have hB3 := hB1.trans hB2; have ho3 := ho1.below hB3 (Nat.le_refl _); have hb3 := hb1'.trans (hB3.mono hb1'.size); clear hC2))
              go_ret2
              exact ⟨_, by rw [HN.out]; rfl, .inl ⟨⟨_, _, rfl⟩, by rw [HN.out]⟩, Fresh.nil _ _ _, hb3⟩
            | true =>
              rw [hmay, if_pos rfl] at hst
              have HS := Lib.hid (show fieldsGo [] Ps = fieldsGo (L ++ [⟨nm, t, true⟩]) (Ps.drop (k + 1)) from hst)
              have HLN := Lib.hid (mayS_len hmay).1
              rw [hmay] at HC1
              clear hst hmay
              go_wp2_with (first | (go_at_call 47; refine (HCT.out).mono ?_; rintro e w1 ⟨rfl, hD⟩; have ho1 := HO.out.below (hD.below (B := wr.heap.size)) (Nat.le_refl _); have hb1' := HB.out.trans (hD.below (B := w.heap.size))) | (go_at_call 50; (first | ((with_reducible refine (HT1.out _).mono ?_); rintro e wx ⟨rfl, rfl⟩) | ((with_reducible refine (HT2.out _).mono ?_); rintro e wx ⟨rfl, rfl⟩))) | (go_at_call 104; refine (HP.out _).mono ?_; rintro e wx ⟨rfl, rfl⟩) | (go_at_call 105; refine (HU.out _).mono ?_; rintro e w2 ⟨rfl, hC⟩; have hf := box3f hC; obtain ⟨r0, r1, r2, hz1, hB1⟩ := box3 hC; clear hC; have hb2 := hb1'.trans (hB1.mono hb1'.size)) | (go_at_call 115; refine (HC1.out _ (ho1.read.below (hB1.setCell (Nat.le_refl _) _) (Nat.le_refl _))).mono ?_; rintro e w3 ⟨rfl, hC2⟩; obtain ⟨r0', r1', r2', hz2, hB2⟩ := box3s r0 r1 r2 hz1 hC2; have hB3 := hB1.trans hB2; have ho3 := ho1.below hB3 (Nat.le_refl _); have hb3 := hb1'.trans (hB3.mono hb1'.size); clear hC2) | (at_builtin; refine wpList_appP1 ⟨nm, t, true⟩ (us_bs _) (us_bs _) rfl rfl rfl Tryz.underlying22 infoP rfl rfl ho3 hb3 (Nat.le_refl _) ?_ ?_; (focus omega); intro v4 w4 ho4 hb4))
              go_roundw
              case rel => exact ⟨k + 1, L ++ [⟨nm, t, true⟩], by omega, by go_num, ho4, by rw [List.length_append]; exact Nat.succ_le_succ hl, fun p hp => by
                    rcases List.mem_append.1 hp with h | h
                    · exact HBL.out p h
                    · rw [List.mem_singleton.1 h]; exact HLN.out, HS.out, hb4⟩
              case measure => simp [intOf]; omega
          | false =>
            unfold chk at hst
            cases hmay : mayS L ⟨nm, t, false⟩ with
            | false =>
              rw [hmay, if_neg (by decide)] at hst
              have HN := Lib.hid (HFB.out hst)
              rw [hmay] at HC1
              clear hst hmay
              go_wp2_with (first | (go_at_call 47; refine (HCT.out).mono ?_; rintro e w1 ⟨rfl, hD⟩; have ho1 := HO.out.below (hD.below (B := wr.heap.size)) (Nat.le_refl _); have hb1' := HB.out.trans (hD.below (B := w.heap.size))) | (go_at_call 50; (first | ((with_reducible refine (HT1.out _).mono ?_); rintro e wx ⟨rfl, rfl⟩) | ((with_reducible refine (HT2.out _).mono ?_); rintro e wx ⟨rfl, rfl⟩))) | (go_at_call 104; refine (HP.out _).mono ?_; rintro e wx ⟨rfl, rfl⟩) | (go_at_call 105; refine (HU.out _).mono ?_; rintro e w2 ⟨rfl, hC⟩; have hf := box3f hC; obtain ⟨r0, r1, r2, hz1, hB1⟩ := box3 hC; clear hC; have hb2 := hb1'.trans (hB1.mono hb1'.size)) | (go_at_call 115; refine (HC1.out _ (ho1.read.below (hB1.setCell (Nat.le_refl _) _) (Nat.le_refl _))).mono ?_; rintro e w3 ⟨rfl, hC2⟩; obtain ⟨r0', r1', r2', hz2, hB2⟩ := box3s r0 r1 r2 hz1 hC2; have hB3 := hB1.trans hB2; have ho3 := ho1.below hB3 (Nat.le_refl _); have hb3 := hb1'.trans (hB3.mono hb1'.size); clear hC2))
              go_ret2
              exact ⟨_, by rw [HN.out]; rfl, .inl ⟨⟨_, _, rfl⟩, by rw [HN.out]⟩, Fresh.nil _ _ _, hb3⟩
            | true =>
              rw [hmay, if_pos rfl] at hst
              have HS := Lib.hid (show fieldsGo [] Ps = fieldsGo (L ++ [⟨nm, t, false⟩]) (Ps.drop (k + 1)) from hst)
              have HLN := Lib.hid (mayS_len hmay).1
              rw [hmay] at HC1
              clear hst hmay
              go_wp2_with (first | (go_at_call 47; refine (HCT.out).mono ?_; rintro e w1 ⟨rfl, hD⟩; have ho1 := HO.out.below (hD.below (B := wr.heap.size)) (Nat.le_refl _); have hb1' := HB.out.trans (hD.below (B := w.heap.size))) | (go_at_call 50; (first | ((with_reducible refine (HT1.out _).mono ?_); rintro e wx ⟨rfl, rfl⟩) | ((with_reducible refine (HT2.out _).mono ?_); rintro e wx ⟨rfl, rfl⟩))) | (go_at_call 104; refine (HP.out _).mono ?_; rintro e wx ⟨rfl, rfl⟩) | (go_at_call 105; refine (HU.out _).mono ?_; rintro e w2 ⟨rfl, hC⟩; have hf := box3f hC; obtain ⟨r0, r1, r2, hz1, hB1⟩ := box3 hC; clear hC; have hb2 := hb1'.trans (hB1.mono hb1'.size)) | (go_at_call 115; refine (HC1.out _ (ho1.read.below (hB1.setCell (Nat.le_refl _) _) (Nat.le_refl _))).mono ?_; rintro e w3 ⟨rfl, hC2⟩; obtain ⟨r0', r1', r2', hz2, hB2⟩ := box3s r0 r1 r2 hz1 hC2; have hB3 := hB1.trans hB2; have ho3 := ho1.below hB3 (Nat.le_refl _); have hb3 := hb1'.trans (hB3.mono hb1'.size); clear hC2) | (at_builtin; refine wpList_appP1 ⟨nm, t, false⟩ (us_bs _) (us_bs _) rfl rfl rfl Tryz.underlying22 infoP rfl rfl ho3 hb3 (Nat.le_refl _) ?_ ?_; (focus omega); intro v4 w4 ho4 hb4))
              go_roundw
              case rel => exact ⟨k + 1, L ++ [⟨nm, t, false⟩], by omega, by go_num, ho4, by rw [List.length_append]; exact Nat.succ_le_succ hl, fun p hp => by
                    rcases List.mem_append.1 hp with h | h
                    · exact HBL.out p h
                    · rw [List.mem_singleton.1 h]; exact HLN.out, HS.out, hb4⟩
              case measure => simp [intOf]; omega
      | false =>
        rw [hq] at hst HP
        rw [if_neg (by decide)] at hst
        clear hq
        have HC1 := Lib.hid (fun wx hx => bad_c u4 L ⟨nm, va, has⟩ (by dsimp only; omega) (by dsimp only; omega) wx hx (fun p hp => by have := HBL.out p hp; omega))
        unfold pv sv at HC1
        dsimp only at HC1
        cases has with
        | false =>
          rw [if_neg (fun h => by cases h.1)] at hst
          unfold chk at hst
          cases hmay : mayS L ⟨nm, va, false⟩ with
          | false =>
            rw [hmay, if_neg (by decide)] at hst
            have HN := Lib.hid (HFB.out hst)
            rw [hmay] at HC1
            clear hst hmay
            go_wp2_with (first | (go_at_call 47; refine (HCT.out).mono ?_; rintro e w1 ⟨rfl, hD⟩; have ho1 := HO.out.below (hD.below (B := wr.heap.size)) (Nat.le_refl _); have hb1' := HB.out.trans (hD.below (B := w.heap.size))) | (go_at_call 50; (first | ((with_reducible refine (HT1.out _).mono ?_); rintro e wx ⟨rfl, rfl⟩) | ((with_reducible refine (HT2.out _).mono ?_); rintro e wx ⟨rfl, rfl⟩))) | (go_at_call 104; refine (HP.out _).mono ?_; rintro e wx ⟨rfl, rfl⟩) | (go_at_call 115; refine (HC1.out _ (ho1.read.below ((Below.refl _ _).alloc (Nat.le_refl _) _) (Nat.le_refl _))).mono ?_; rintro e w3 ⟨rfl, hC⟩; obtain ⟨r0, r1, r2, hz1, hB1⟩ := box3 hC; clear hC; have ho3 := ho1.below hB1 (Nat.le_refl _); have hb3 := hb1'.trans (hB1.mono hb1'.size)))
            go_ret2
            exact ⟨_, by rw [HN.out]; rfl, .inl ⟨⟨_, _, rfl⟩, by rw [HN.out]⟩, Fresh.nil _ _ _, hb3⟩
          | true =>
            rw [hmay, if_pos rfl] at hst
            have HS := Lib.hid (show fieldsGo [] Ps = fieldsGo (L ++ [⟨nm, va, false⟩]) (Ps.drop (k + 1)) from hst)
            have HLN := Lib.hid (mayS_len hmay).1
            rw [hmay] at HC1
            clear hst hmay
            go_wp2_with (first | (go_at_call 47; refine (HCT.out).mono ?_; rintro e w1 ⟨rfl, hD⟩; have ho1 := HO.out.below (hD.below (B := wr.heap.size)) (Nat.le_refl _); have hb1' := HB.out.trans (hD.below (B := w.heap.size))) | (go_at_call 50; (first | ((with_reducible refine (HT1.out _).mono ?_); rintro e wx ⟨rfl, rfl⟩) | ((with_reducible refine (HT2.out _).mono ?_); rintro e wx ⟨rfl, rfl⟩))) | (go_at_call 104; refine (HP.out _).mono ?_; rintro e wx ⟨rfl, rfl⟩) | (go_at_call 115; refine (HC1.out _ (ho1.read.below ((Below.refl _ _).alloc (Nat.le_refl _) _) (Nat.le_refl _))).mono ?_; rintro e w3 ⟨rfl, hC⟩; obtain ⟨r0, r1, r2, hz1, hB1⟩ := box3 hC; clear hC; have ho3 := ho1.below hB1 (Nat.le_refl _); have hb3 := hb1'.trans (hB1.mono hb1'.size)) | (at_builtin; refine wpList_appP1 ⟨nm, va, false⟩ (us_bs _) (us_bs _) rfl rfl rfl Tryz.underlying22 infoP rfl rfl ho3 hb3 (Nat.le_refl _) ?_ ?_; (focus omega); intro v4 w4 ho4 hb4))
            go_roundw
            case rel => exact ⟨k + 1, L ++ [⟨nm, va, false⟩], by omega, by go_num, ho4, by rw [List.length_append]; exact Nat.succ_le_succ hl, fun p hp => by
                  rcases List.mem_append.1 hp with h | h
                  · exact HBL.out p h
                  · rw [List.mem_singleton.1 h]; exact HLN.out, HS.out, hb4⟩
            case measure => simp [intOf]; omega
        | true =>
          have HWD := Lib.hid (fun wx hx => word_c (bs va) (by rw [size_bs]; omega) wx hx)
          rw [us_bs] at HWD
          cases hwd : wordS va with
          | false =>
            rw [if_pos ⟨rfl, hwd⟩] at hst
            rw [hwd] at HWD
            have HN := Lib.hid (HFB.out hst)
            clear hst hwd
            go_wp2_with (first | (go_at_call 47; refine (HCT.out).mono ?_; rintro e w1 ⟨rfl, hD⟩; have ho1 := HO.out.below (hD.below (B := wr.heap.size)) (Nat.le_refl _); have hb1' := HB.out.trans (hD.below (B := w.heap.size))) | (go_at_call 50; (first | ((with_reducible refine (HT1.out _).mono ?_); rintro e wx ⟨rfl, rfl⟩) | ((with_reducible refine (HT2.out _).mono ?_); rintro e wx ⟨rfl, rfl⟩))) | (go_at_call 104; refine (HP.out _).mono ?_; rintro e wx ⟨rfl, rfl⟩) | (go_at_call 114; refine (HWD.out _ (HM.out.below (hb1'.alloc hb1'.size _))).mono ?_; rintro e w2 ⟨rfl, hC⟩; obtain ⟨r0, r1, r2, hz1, hB1⟩ := box3 hC; clear hC; have ho2 := ho1.below hB1 (Nat.le_refl _); have hb2 := hb1'.trans (hB1.mono hb1'.size)))
            go_ret2
            exact ⟨_, by rw [HN.out]; rfl, .inl ⟨⟨_, _, rfl⟩, by rw [HN.out]⟩, Fresh.nil _ _ _, hb2⟩
          | true =>
            rw [if_neg (fun h => by rw [hwd] at h; cases h.2)] at hst
            rw [hwd] at HWD
            clear hwd
            unfold chk at hst
            cases hmay : mayS L ⟨nm, va, true⟩ with
            | false =>
              rw [hmay, if_neg (by decide)] at hst
              have HN := Lib.hid (HFB.out hst)
              rw [hmay] at HC1
              clear hst hmay
              go_wp2_with (first | (go_at_call 47; refine (HCT.out).mono ?_; rintro e w1 ⟨rfl, hD⟩; have ho1 := HO.out.below (hD.below (B := wr.heap.size)) (Nat.le_refl _); have hb1' := HB.out.trans (hD.below (B := w.heap.size))) | (go_at_call 50; (first | ((with_reducible refine (HT1.out _).mono ?_); rintro e wx ⟨rfl, rfl⟩) | ((with_reducible refine (HT2.out _).mono ?_); rintro e wx ⟨rfl, rfl⟩))) | (go_at_call 104; refine (HP.out _).mono ?_; rintro e wx ⟨rfl, rfl⟩) | (go_at_call 114; refine (HWD.out _ (HM.out.below (hb1'.alloc hb1'.size _))).mono ?_; rintro e w2 ⟨rfl, hC⟩; obtain ⟨r0, r1, r2, hz1, hB1⟩ := box3 hC; clear hC; have ho2 := ho1.below hB1 (Nat.le_refl _); have hb2 := hb1'.trans (hB1.mono hb1'.size)) | (go_at_call 115; refine (HC1.out _ ho2.read).mono ?_; rintro e w3 ⟨rfl, hC2⟩; obtain ⟨r0', r1', r2', hz2⟩ := box3n r0 r1 r2 hz1 hC2; have ho3 := ho2.below hC2 (Nat.le_refl _); have hb3 := hb2.trans (hC2.mono hb2.size); clear hC2))
              go_ret2
              exact ⟨_, by rw [HN.out]; rfl, .inl ⟨⟨_, _, rfl⟩, by rw [HN.out]⟩, Fresh.nil _ _ _, hb3⟩
            | true =>
              rw [hmay, if_pos rfl] at hst
              have HS := Lib.hid (show fieldsGo [] Ps = fieldsGo (L ++ [⟨nm, va, true⟩]) (Ps.drop (k + 1)) from hst)
              have HLN := Lib.hid (mayS_len hmay).1
              rw [hmay] at HC1
              clear hst hmay
              go_wp2_with (first | (go_at_call 47; refine (HCT.out).mono ?_; rintro e w1 ⟨rfl, hD⟩; have ho1 := HO.out.below (hD.below (B := wr.heap.size)) (Nat.le_refl _); have hb1' := HB.out.trans (hD.below (B := w.heap.size))) | (go_at_call 50; (first | ((with_reducible refine (HT1.out _).mono ?_); rintro e wx ⟨rfl, rfl⟩) | ((with_reducible refine (HT2.out _).mono ?_); rintro e wx ⟨rfl, rfl⟩))) | (go_at_call 104; refine (HP.out _).mono ?_; rintro e wx ⟨rfl, rfl⟩) | (go_at_call 114; refine (HWD.out _ (HM.out.below (hb1'.alloc hb1'.size _))).mono ?_; rintro e w2 ⟨rfl, hC⟩; obtain ⟨r0, r1, r2, hz1, hB1⟩ := box3 hC; clear hC; have ho2 := ho1.below hB1 (Nat.le_refl _); have hb2 := hb1'.trans (hB1.mono hb1'.size)) | (go_at_call 115; refine (HC1.out _ ho2.read).mono ?_; rintro e w3 ⟨rfl, hC2⟩; obtain ⟨r0', r1', r2', hz2⟩ := box3n r0 r1 r2 hz1 hC2; have ho3 := ho2.below hC2 (Nat.le_refl _); have hb3 := hb2.trans (hC2.mono hb2.size); clear hC2) | (at_builtin; refine wpList_appP1 ⟨nm, va, true⟩ (us_bs _) (us_bs _) rfl rfl rfl Tryz.underlying22 infoP rfl rfl ho3 hb3 (Nat.le_refl _) ?_ ?_; (focus omega); intro v4 w4 ho4 hb4))
              go_roundw
              case rel => exact ⟨k + 1, L ++ [⟨nm, va, true⟩], by omega, by go_num, ho4, by rw [List.length_append]; exact Nat.succ_le_succ hl, fun p hp => by
                  rcases List.mem_append.1 hp with h | h
                  · exact HBL.out p h
                  · rw [List.mem_singleton.1 h]; exact HLN.out, HS.out, hb4⟩
              case measure => simp [intOf]; omega
    · obtain rfl : k = Ps.length := by omega
      have HE := Lib.hid (HFE.out L hp)
      clear hp
      go_wp2
      go_ret2
      exact ⟨_, by rw [HE.out]; rfl, by rw [HE.out]; exact hown.read, hown.fresh, hB⟩
end

section
open Go.RowKit

theorem opens_yes (V : ByteArray) (n : UInt8) (h : opens n (us V) = true) : ∃ h : 0 < V.size, ((V[0].toNat : Int) == (n.toNat : Int)) = true := by
  rcases Nat.eq_zero_or_pos V.size with h0 | h0
  · rw [List.eq_nil_of_length_eq_zero ((length_us V).trans h0)] at h; cases h
  · refine ⟨h0, ?_⟩
    have := drop_us V 0 h0
    rw [List.drop_zero] at this
    rw [this] at h
    simp only [opens, beq_iff_eq] at h
    simp [h]
theorem opens_no (V : ByteArray) (n : UInt8) (h : opens n (us V) = false) : V.size = 0 ∨ ∃ h : 0 < V.size, ((V[0].toNat : Int) == (n.toNat : Int)) = false := by
  rcases Nat.eq_zero_or_pos V.size with h0 | h0
  · exact .inl h0
  · refine .inr ⟨h0, ?_⟩
    have := drop_us V 0 h0
    rw [List.drop_zero] at this
    rw [this] at h
    simp only [opens, beq_eq_false_iff_ne] at h
    rw [beq_eq_false_iff_ne]; omega

set_option maxRecDepth 100000 in
set_option maxHeartbeats 3200000 in
theorem fieldsR_c (v0 : Value) (Ps : List (List UInt8)) (w : World) (hv : RStrs w v0 Ps) (hbd : ∀ x ∈ Ps, x.length ≤ 4294967280) :
    Calls Tryz.prog 134 #[v0] w fun e w' => ∃ u, e = .returned (.tuple #[u, .int .i64 (fieldsS Ps).2]) ∧ RPrms w' u (fieldsS Ps).1 ∧ Fresh w.heap.size u ∧ Below w.heap.size w w' := by
  obtain ⟨ao, cap, rfl, hm1, c1⟩ := hv.form
  have C1 := Lib.hid c1
  have HBD := Lib.hid hbd
  clear c1 hv hbd
  unfold maxLen at hm1
  by_cases h16 : 16 < Ps.length
  · have HN := Lib.hid (show fieldsS Ps = ([], 4) by unfold fieldsS; rw [if_pos h16])
    go_enter Tryz.func134, Tryz.ntmps134
    go_wp2
    go_ret2
    exact ⟨_, by rw [HN.out]; rfl, .inl ⟨⟨_, _, rfl⟩, by rw [HN.out]⟩, Fresh.nil _ _ _, Below.refl _ _⟩
  have HFB := Lib.hid (fields_bad Ps (by omega))
  have HFE := Lib.hid (fun L => fields_end L Ps (by omega))
  go_enter Tryz.func134, Tryz.ntmps134
  go_wp2
  go_loopw [4, 5] (fun vo i wr => ∃ (k : Nat) (L : List Prm), k ≤ Ps.length ∧ i = .int .i64 k ∧ Prms wr w.heap.size vo L ∧ L.length ≤ k ∧ (∀ p ∈ L, p.name.length ≤ 64) ∧ fieldsGo [] Ps = fieldsGo L (Ps.drop k) ∧ Below w.heap.size w wr) (fun _ i _ => Ps.length - (intOf i).toNat)
  case atStart => exact ⟨0, [], Nat.zero_le _, rfl, Prms.nil _ _, Nat.le_refl _, by simp, rfl, Below.refl _ _⟩
  case round =>
    obtain ⟨k, L, hk, rfl, hown, hl, hbl, hp, hB⟩ := hrel
    have HBL := Lib.hid hbl; clear hbl
    by_cases hlt : k < Ps.length
    · have hst := fields_step L Ps k hlt hp
      obtain ⟨b, off, rfl, hb1, hc1⟩ := C1.out (by omega)
      have x1 : wr.cell? ⟨b, off + k, none⟩ = some (.string (bs Ps[k])) := by
        rw [hB.cell (p := ⟨b, off + k, none⟩) hb1]; exact hc1 k hlt
      have k0 : (0 : Int) ≤ (k : Int) := by omega
      have k1 : (k : Int) < (Ps.length : Int) := by omega
      have hxs := HBD.out _ (List.getElem_mem hlt)
      clear hc1 hp
      unfold field at hst
      have hcl := cutb_le 61 Ps[k]
      have HCT := Lib.hid (fun wx => cutR_c (bs Ps[k]) (by rw [size_bs]; omega) 61 wx)
      rw [us_bs] at HCT
      obtain ⟨c, hc⟩ : ∃ c, c = cutb 61 Ps[k] := ⟨_, rfl⟩
      rw [← hc] at HCT hst hcl
      clear hc
      obtain ⟨n0, vv, has⟩ := c
      dsimp only at hst hcl
      have HT1 := Lib.hid (fun wx => trimR_c (bs n0) (by rw [size_bs]; omega) wx)
      have HT2 := Lib.hid (fun wx => trimR_c (bs vv) (by rw [size_bs]; omega) wx)
      have ht1 := trim_le n0
      have ht2 := trim_le vv
      rw [us_bs] at HT1 HT2
      unfold fieldOf at hst
      obtain ⟨nm, hnm⟩ : ∃ nm, nm = trim n0 := ⟨_, rfl⟩
      obtain ⟨va, hva⟩ : ∃ va, va = trim vv := ⟨_, rfl⟩
      rw [← hnm] at HT1 hst ht1
      rw [← hva] at HT2 hst ht2
      clear hnm hva
      obtain ⟨VA, hVA⟩ : ∃ VA, VA = bs va := ⟨_, rfl⟩
      have hVs : VA.size = va.length := by rw [hVA, size_bs]
      have HVu := Lib.hid (show us VA = va by rw [hVA, us_bs])
      rw [← hVA] at HT2
      clear hVA
      have HO := Lib.hid hown
      have HB := Lib.hid hB
      clear hown hB
      cases hq : opens 34 va with
      | true =>
        rw [if_pos hq] at hst
        obtain ⟨hz0, t1⟩ := opens_yes VA 34 (by rw [HVu.out]; exact hq)
        clear hq
        replace t1 : ((VA[0].toNat : Int) == 34) = true := t1
        have HU := Lib.hid (fun wx => unquoteR_c VA (by omega) wx)
        rw [HVu.out] at HU
        have hul := unquote_len va
        obtain ⟨qp, hqp⟩ : ∃ qp, qp = unquote va := ⟨_, rfl⟩
        rw [← hqp] at HU hst hul
        clear hqp
        obtain ⟨t, qe⟩ := qp
        dsimp only at HU hst hul
        cases hqe : (qe != 0) with
        | true =>
          rw [if_neg (by simpa using hqe)] at hst
          have HN := Lib.hid (HFB.out hst)
          clear hst
          go_wp2_with (first | (go_at_call 122; refine (HCT.out _).mono ?_; rintro e w1 ⟨rfl, hD⟩; have ho1 := HO.out.below (hD.below (B := wr.heap.size)) (Nat.le_refl _); have hb1' := HB.out.trans (hD.below (B := w.heap.size))) | (go_at_call 130; (first | ((with_reducible refine (HT1.out _).mono ?_); rintro e wx ⟨rfl, rfl⟩) | ((with_reducible refine (HT2.out _).mono ?_); rintro e wx ⟨rfl, rfl⟩))) | (go_at_call 172; refine (HU.out _).mono ?_; rintro e w2 ⟨rfl, hC0⟩; have ho2 := ho1.below hC0 (Nat.le_refl _); have hb2 := hb1'.trans (hC0.mono hb1'.size)))
          go_ret2
          exact ⟨_, by rw [HN.out]; rfl, .inl ⟨⟨_, _, rfl⟩, by rw [HN.out]⟩, Fresh.nil _ _ _, hb2⟩
        | false =>
          rw [if_pos (by simpa using hqe)] at hst
          cases has with
          | true =>
            have HC1 := Lib.hid (fun wx hx => mayR_c u4 L ⟨nm, t, true⟩ (by dsimp only; omega) (by dsimp only; omega) wx hx (fun p hp => by have := HBL.out p hp; omega))
            unfold pv sv at HC1
            dsimp only at HC1
            unfold chk at hst
            cases hmay : mayS L ⟨nm, t, true⟩ with
            | false =>
              rw [hmay, if_neg (by decide)] at hst
              have HN := Lib.hid (HFB.out hst)
              rw [hmay] at HC1
              clear hst hmay
              go_wp2_with (first | (go_at_call 122; refine (HCT.out _).mono ?_; rintro e w1 ⟨rfl, hD⟩; have ho1 := HO.out.below (hD.below (B := wr.heap.size)) (Nat.le_refl _); have hb1' := HB.out.trans (hD.below (B := w.heap.size))) | (go_at_call 130; (first | ((with_reducible refine (HT1.out _).mono ?_); rintro e wx ⟨rfl, rfl⟩) | ((with_reducible refine (HT2.out _).mono ?_); rintro e wx ⟨rfl, rfl⟩))) | (go_at_call 172; refine (HU.out _).mono ?_; rintro e w2 ⟨rfl, hC0⟩; have ho2 := ho1.below hC0 (Nat.le_refl _); have hb2 := hb1'.trans (hC0.mono hb1'.size)) | (go_at_call 167; refine (HC1.out _ (ho2.read.below ((Below.refl _ _).alloc (Nat.le_refl _) _) (Nat.le_refl _))).mono ?_; rintro e w3 ⟨rfl, hC⟩; obtain ⟨r0, r1, r2, hz1, hB1⟩ := box3 hC; clear hC; have ho3 := ho2.below hB1 (Nat.le_refl _); have hb3 := hb2.trans (hB1.mono hb2.size)))
              go_ret2
              exact ⟨_, by rw [HN.out]; rfl, .inl ⟨⟨_, _, rfl⟩, by rw [HN.out]⟩, Fresh.nil _ _ _, hb3⟩
            | true =>
              rw [hmay, if_pos rfl] at hst
              have HS := Lib.hid (show fieldsGo [] Ps = fieldsGo (L ++ [⟨nm, t, true⟩]) (Ps.drop (k + 1)) from hst)
              have HLN := Lib.hid (mayS_len hmay).1
              rw [hmay] at HC1
              clear hst hmay
              go_wp2_with (first | (go_at_call 122; refine (HCT.out _).mono ?_; rintro e w1 ⟨rfl, hD⟩; have ho1 := HO.out.below (hD.below (B := wr.heap.size)) (Nat.le_refl _); have hb1' := HB.out.trans (hD.below (B := w.heap.size))) | (go_at_call 130; (first | ((with_reducible refine (HT1.out _).mono ?_); rintro e wx ⟨rfl, rfl⟩) | ((with_reducible refine (HT2.out _).mono ?_); rintro e wx ⟨rfl, rfl⟩))) | (go_at_call 172; refine (HU.out _).mono ?_; rintro e w2 ⟨rfl, hC0⟩; have ho2 := ho1.below hC0 (Nat.le_refl _); have hb2 := hb1'.trans (hC0.mono hb1'.size)) | (go_at_call 167; refine (HC1.out _ (ho2.read.below ((Below.refl _ _).alloc (Nat.le_refl _) _) (Nat.le_refl _))).mono ?_; rintro e w3 ⟨rfl, hC⟩; obtain ⟨r0, r1, r2, hz1, hB1⟩ := box3 hC; clear hC; have ho3 := ho2.below hB1 (Nat.le_refl _); have hb3 := hb2.trans (hB1.mono hb2.size)) | (at_builtin; refine wpList_appP1 ⟨nm, t, true⟩ (us_bs _) (us_bs _) rfl rfl rfl Tryz.underlying22 infoP rfl rfl ho3 hb3 (Nat.le_refl _) ?_ ?_; (focus omega); intro v4 w4 ho4 hb4))
              go_roundw
              case rel =>
                exact ⟨k + 1, L ++ [⟨nm, t, true⟩], by omega, by go_num, ho4, by rw [List.length_append]; exact Nat.succ_le_succ hl, fun p hp => by
                  rcases List.mem_append.1 hp with h | h
                  · exact HBL.out p h
                  · rw [List.mem_singleton.1 h]; exact HLN.out, HS.out, hb4⟩
              case measure => simp [intOf]; omega
          | false =>
            have HC1 := Lib.hid (fun wx hx => mayR_c u4 L ⟨nm, t, false⟩ (by dsimp only; omega) (by dsimp only; omega) wx hx (fun p hp => by have := HBL.out p hp; omega))
            unfold pv sv at HC1
            dsimp only at HC1
            unfold chk at hst
            cases hmay : mayS L ⟨nm, t, false⟩ with
            | false =>
              rw [hmay, if_neg (by decide)] at hst
              have HN := Lib.hid (HFB.out hst)
              rw [hmay] at HC1
              clear hst hmay
              go_wp2_with (first | (go_at_call 122; refine (HCT.out _).mono ?_; rintro e w1 ⟨rfl, hD⟩; have ho1 := HO.out.below (hD.below (B := wr.heap.size)) (Nat.le_refl _); have hb1' := HB.out.trans (hD.below (B := w.heap.size))) | (go_at_call 130; (first | ((with_reducible refine (HT1.out _).mono ?_); rintro e wx ⟨rfl, rfl⟩) | ((with_reducible refine (HT2.out _).mono ?_); rintro e wx ⟨rfl, rfl⟩))) | (go_at_call 172; refine (HU.out _).mono ?_; rintro e w2 ⟨rfl, hC0⟩; have ho2 := ho1.below hC0 (Nat.le_refl _); have hb2 := hb1'.trans (hC0.mono hb1'.size)) | (go_at_call 167; refine (HC1.out _ (ho2.read.below ((Below.refl _ _).alloc (Nat.le_refl _) _) (Nat.le_refl _))).mono ?_; rintro e w3 ⟨rfl, hC⟩; obtain ⟨r0, r1, r2, hz1, hB1⟩ := box3 hC; clear hC; have ho3 := ho2.below hB1 (Nat.le_refl _); have hb3 := hb2.trans (hB1.mono hb2.size)))
              go_ret2
              exact ⟨_, by rw [HN.out]; rfl, .inl ⟨⟨_, _, rfl⟩, by rw [HN.out]⟩, Fresh.nil _ _ _, hb3⟩
            | true =>
              rw [hmay, if_pos rfl] at hst
              have HS := Lib.hid (show fieldsGo [] Ps = fieldsGo (L ++ [⟨nm, t, false⟩]) (Ps.drop (k + 1)) from hst)
              have HLN := Lib.hid (mayS_len hmay).1
              rw [hmay] at HC1
              clear hst hmay
              go_wp2_with (first | (go_at_call 122; refine (HCT.out _).mono ?_; rintro e w1 ⟨rfl, hD⟩; have ho1 := HO.out.below (hD.below (B := wr.heap.size)) (Nat.le_refl _); have hb1' := HB.out.trans (hD.below (B := w.heap.size))) | (go_at_call 130; (first | ((with_reducible refine (HT1.out _).mono ?_); rintro e wx ⟨rfl, rfl⟩) | ((with_reducible refine (HT2.out _).mono ?_); rintro e wx ⟨rfl, rfl⟩))) | (go_at_call 172; refine (HU.out _).mono ?_; rintro e w2 ⟨rfl, hC0⟩; have ho2 := ho1.below hC0 (Nat.le_refl _); have hb2 := hb1'.trans (hC0.mono hb1'.size)) | (go_at_call 167; refine (HC1.out _ (ho2.read.below ((Below.refl _ _).alloc (Nat.le_refl _) _) (Nat.le_refl _))).mono ?_; rintro e w3 ⟨rfl, hC⟩; obtain ⟨r0, r1, r2, hz1, hB1⟩ := box3 hC; clear hC; have ho3 := ho2.below hB1 (Nat.le_refl _); have hb3 := hb2.trans (hB1.mono hb2.size)) | (at_builtin; refine wpList_appP1 ⟨nm, t, false⟩ (us_bs _) (us_bs _) rfl rfl rfl Tryz.underlying22 infoP rfl rfl ho3 hb3 (Nat.le_refl _) ?_ ?_; (focus omega); intro v4 w4 ho4 hb4))
              go_roundw
              case rel =>
                exact ⟨k + 1, L ++ [⟨nm, t, false⟩], by omega, by go_num, ho4, by rw [List.length_append]; exact Nat.succ_le_succ hl, fun p hp => by
                  rcases List.mem_append.1 hp with h | h
                  · exact HBL.out p h
                  · rw [List.mem_singleton.1 h]; exact HLN.out, HS.out, hb4⟩
              case measure => simp [intOf]; omega
      | false =>
        rw [if_neg (by rw [hq]; decide)] at hst
        have ho := opens_no VA 34 (by rw [HVu.out]; exact hq)
        clear hq
        replace ho : VA.size = 0 ∨ ∃ h : 0 < VA.size, ((VA[0].toNat : Int) == 34) = false := ho
        rcases ho with hz0 | ⟨hz0, t1⟩
        all_goals
          cases has with
          | false =>
            rw [if_neg (fun h => by cases h.1)] at hst
            have HC1 := Lib.hid (fun wx hx => mayR_c u4 L ⟨nm, va, false⟩ (by dsimp only; omega) (by dsimp only; omega) wx hx (fun p hp => by have := HBL.out p hp; omega))
            unfold pv sv at HC1
            dsimp only at HC1
            rw [show bs va = VA by rw [← HVu.out, bs_us]] at HC1
            unfold chk at hst
            cases hmay : mayS L ⟨nm, va, false⟩ with
            | false =>
              rw [hmay, if_neg (by decide)] at hst
              have HN := Lib.hid (HFB.out hst)
              rw [hmay] at HC1
              clear hst hmay
              go_wp2_with (first | (go_at_call 122; refine (HCT.out _).mono ?_; rintro e w1 ⟨rfl, hD⟩; have ho1 := HO.out.below (hD.below (B := wr.heap.size)) (Nat.le_refl _); have hb1' := HB.out.trans (hD.below (B := w.heap.size))) | (go_at_call 130; (first | ((with_reducible refine (HT1.out _).mono ?_); rintro e wx ⟨rfl, rfl⟩) | ((with_reducible refine (HT2.out _).mono ?_); rintro e wx ⟨rfl, rfl⟩))) | (go_at_call 167; refine (HC1.out _ (ho1.read.below ((Below.refl _ _).alloc (Nat.le_refl _) _) (Nat.le_refl _))).mono ?_; rintro e w3 ⟨rfl, hC⟩; obtain ⟨r0, r1, r2, hz1, hB1⟩ := box3 hC; clear hC; have ho3 := ho1.below hB1 (Nat.le_refl _); have hb3 := hb1'.trans (hB1.mono hb1'.size)))
              go_ret2
              exact ⟨_, by rw [HN.out]; rfl, .inl ⟨⟨_, _, rfl⟩, by rw [HN.out]⟩, Fresh.nil _ _ _, hb3⟩
            | true =>
              rw [hmay, if_pos rfl] at hst
              have HS := Lib.hid (show fieldsGo [] Ps = fieldsGo (L ++ [⟨nm, va, false⟩]) (Ps.drop (k + 1)) from hst)
              have HLN := Lib.hid (mayS_len hmay).1
              rw [hmay] at HC1
              clear hst hmay
              go_wp2_with (first | (go_at_call 122; refine (HCT.out _).mono ?_; rintro e w1 ⟨rfl, hD⟩; have ho1 := HO.out.below (hD.below (B := wr.heap.size)) (Nat.le_refl _); have hb1' := HB.out.trans (hD.below (B := w.heap.size))) | (go_at_call 130; (first | ((with_reducible refine (HT1.out _).mono ?_); rintro e wx ⟨rfl, rfl⟩) | ((with_reducible refine (HT2.out _).mono ?_); rintro e wx ⟨rfl, rfl⟩))) | (go_at_call 167; refine (HC1.out _ (ho1.read.below ((Below.refl _ _).alloc (Nat.le_refl _) _) (Nat.le_refl _))).mono ?_; rintro e w3 ⟨rfl, hC⟩; obtain ⟨r0, r1, r2, hz1, hB1⟩ := box3 hC; clear hC; have ho3 := ho1.below hB1 (Nat.le_refl _); have hb3 := hb1'.trans (hB1.mono hb1'.size)) | (at_builtin; refine wpList_appP1 ⟨nm, va, false⟩ (us_bs _) HVu.out rfl rfl rfl Tryz.underlying22 infoP rfl rfl ho3 hb3 (Nat.le_refl _) ?_ ?_; (focus omega); intro v4 w4 ho4 hb4))
              go_roundw
              case rel =>
                exact ⟨k + 1, L ++ [⟨nm, va, false⟩], by omega, by go_num, ho4, by rw [List.length_append]; exact Nat.succ_le_succ hl, fun p hp => by
                  rcases List.mem_append.1 hp with h | h
                  · exact HBL.out p h
                  · rw [List.mem_singleton.1 h]; exact HLN.out, HS.out, hb4⟩
              case measure => simp [intOf]; omega
          | true =>
            have HWD := Lib.hid (fun wx => wordR_c VA (by omega) wx)
            rw [HVu.out] at HWD
            cases hwd : wordS va with
            | false =>
              rw [if_pos ⟨rfl, hwd⟩] at hst
              rw [hwd] at HWD
              have HN := Lib.hid (HFB.out hst)
              clear hst hwd
              go_wp2_with (first | (go_at_call 122; refine (HCT.out _).mono ?_; rintro e w1 ⟨rfl, hD⟩; have ho1 := HO.out.below (hD.below (B := wr.heap.size)) (Nat.le_refl _); have hb1' := HB.out.trans (hD.below (B := w.heap.size))) | (go_at_call 130; (first | ((with_reducible refine (HT1.out _).mono ?_); rintro e wx ⟨rfl, rfl⟩) | ((with_reducible refine (HT2.out _).mono ?_); rintro e wx ⟨rfl, rfl⟩))) | (go_at_call 168; refine (HWD.out _).mono ?_; rintro e w2 ⟨rfl, hC0⟩; have ho2 := ho1.below hC0 (Nat.le_refl _); have hb2 := hb1'.trans (hC0.mono hb1'.size)))
              go_ret2
              exact ⟨_, by rw [HN.out]; rfl, .inl ⟨⟨_, _, rfl⟩, by rw [HN.out]⟩, Fresh.nil _ _ _, hb2⟩
            | true =>
              rw [if_neg (fun h => by rw [hwd] at h; cases h.2)] at hst
              rw [hwd] at HWD
              clear hwd
              have HC1 := Lib.hid (fun wx hx => mayR_c u4 L ⟨nm, va, true⟩ (by dsimp only; omega) (by dsimp only; omega) wx hx (fun p hp => by have := HBL.out p hp; omega))
              unfold pv sv at HC1
              dsimp only at HC1
              rw [show bs va = VA by rw [← HVu.out, bs_us]] at HC1
              unfold chk at hst
              cases hmay : mayS L ⟨nm, va, true⟩ with
              | false =>
                rw [hmay, if_neg (by decide)] at hst
                have HN := Lib.hid (HFB.out hst)
                rw [hmay] at HC1
                clear hst hmay
                go_wp2_with (first | (go_at_call 122; refine (HCT.out _).mono ?_; rintro e w1 ⟨rfl, hD⟩; have ho1 := HO.out.below (hD.below (B := wr.heap.size)) (Nat.le_refl _); have hb1' := HB.out.trans (hD.below (B := w.heap.size))) | (go_at_call 130; (first | ((with_reducible refine (HT1.out _).mono ?_); rintro e wx ⟨rfl, rfl⟩) | ((with_reducible refine (HT2.out _).mono ?_); rintro e wx ⟨rfl, rfl⟩))) | (go_at_call 168; refine (HWD.out _).mono ?_; rintro e w2 ⟨rfl, hC0⟩; have ho2 := ho1.below hC0 (Nat.le_refl _); have hb2 := hb1'.trans (hC0.mono hb1'.size)) | (go_at_call 167; refine (HC1.out _ (ho2.read.below ((Below.refl _ _).alloc (Nat.le_refl _) _) (Nat.le_refl _))).mono ?_; rintro e w3 ⟨rfl, hC⟩; obtain ⟨r0, r1, r2, hz1, hB1⟩ := box3 hC; clear hC; have ho3 := ho2.below hB1 (Nat.le_refl _); have hb3 := hb2.trans (hB1.mono hb2.size)))
                go_ret2
                exact ⟨_, by rw [HN.out]; rfl, .inl ⟨⟨_, _, rfl⟩, by rw [HN.out]⟩, Fresh.nil _ _ _, hb3⟩
              | true =>
                rw [hmay, if_pos rfl] at hst
                have HS := Lib.hid (show fieldsGo [] Ps = fieldsGo (L ++ [⟨nm, va, true⟩]) (Ps.drop (k + 1)) from hst)
                have HLN := Lib.hid (mayS_len hmay).1
                rw [hmay] at HC1
                clear hst hmay
                go_wp2_with (first | (go_at_call 122; refine (HCT.out _).mono ?_; rintro e w1 ⟨rfl, hD⟩; have ho1 := HO.out.below (hD.below (B := wr.heap.size)) (Nat.le_refl _); have hb1' := HB.out.trans (hD.below (B := w.heap.size))) | (go_at_call 130; (first | ((with_reducible refine (HT1.out _).mono ?_); rintro e wx ⟨rfl, rfl⟩) | ((with_reducible refine (HT2.out _).mono ?_); rintro e wx ⟨rfl, rfl⟩))) | (go_at_call 168; refine (HWD.out _).mono ?_; rintro e w2 ⟨rfl, hC0⟩; have ho2 := ho1.below hC0 (Nat.le_refl _); have hb2 := hb1'.trans (hC0.mono hb1'.size)) | (go_at_call 167; refine (HC1.out _ (ho2.read.below ((Below.refl _ _).alloc (Nat.le_refl _) _) (Nat.le_refl _))).mono ?_; rintro e w3 ⟨rfl, hC⟩; obtain ⟨r0, r1, r2, hz1, hB1⟩ := box3 hC; clear hC; have ho3 := ho2.below hB1 (Nat.le_refl _); have hb3 := hb2.trans (hB1.mono hb2.size)) | (at_builtin; refine wpList_appP1 ⟨nm, va, true⟩ (us_bs _) HVu.out rfl rfl rfl Tryz.underlying22 infoP rfl rfl ho3 hb3 (Nat.le_refl _) ?_ ?_; (focus omega); intro v4 w4 ho4 hb4))
                go_roundw
                case rel =>
                  exact ⟨k + 1, L ++ [⟨nm, va, true⟩], by omega, by go_num, ho4, by rw [List.length_append]; exact Nat.succ_le_succ hl, fun p hp => by
                    rcases List.mem_append.1 hp with h | h
                    · exact HBL.out p h
                    · rw [List.mem_singleton.1 h]; exact HLN.out, HS.out, hb4⟩
                case measure => simp [intOf]; omega
    · obtain rfl : k = Ps.length := by omega
      have HE := Lib.hid (HFE.out L hp)
      clear hp
      go_wp2
      go_ret2
      exact ⟨_, by rw [HE.out]; rfl, by rw [HE.out]; exact hown.read, hown.fresh, hB⟩
end

end Go.Proofs.YtipdiddjhimdcaaGreatDoor

