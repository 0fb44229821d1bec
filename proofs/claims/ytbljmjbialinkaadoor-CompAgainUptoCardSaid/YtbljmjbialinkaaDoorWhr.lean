/-
  uri.port, uri.where, uri.Where, rosterref03.Where.
-/
import Derived.Test.YtbljmjbialinkaaDoorVia
namespace Go.Proofs.YtbljmjbialinkaaDoor
open Go.RowKit

theorem port_c (s : ByteArray) (hs : s.size ≤ 9223372036854775807) (w : World) :
    Calls Tryd.prog 46 #[.string s] w fun e w' => e = .returned (.tuple #[.int .i64 (number (us s) 65535).1, .bool (((number (us s) 65535).2 == 0) && decide (0 < (number (us s) 65535).1))]) ∧ w = w' := by
  have HN := Lib.hid (fun wx => number_c s hs 65535 (by decide) (by decide) wx)
  obtain ⟨p, hp⟩ : ∃ p, p = number (us s) 65535 := ⟨_, rfl⟩
  rw [← hp] at HN ⊢
  clear hp
  obtain ⟨n, e⟩ := p
  dsimp only at HN ⊢
  cases he : (e == 0)
  all_goals
    go_enter Tryd.func46, Tryd.ntmps46
    go_wp2_with (go_at_call 69; refine (HN.out _).mono ?_; rintro e w' ⟨rfl, rfl⟩)
    go_ret2
    refine ⟨?_, rfl⟩
    first | rfl | simp

theorem endW_step (s : ByteArray) (k : Nat) (i : Bool) (h : k < s.size) (hc : i = true ∨ s[k].toNat ≠ 58) (hp : endW false (us s) = endW i ((us s).drop k) + k) :
    endW false (us s) = endW (s[k].toNat == 91 || (i && !(s[k].toNat == 93))) ((us s).drop (k + 1)) + (k + 1) := by
  rw [hp, drop_us s k h, endW, if_pos hc]; omega
theorem endW_stop (s : ByteArray) (k : Nat) (h : k < s.size) (hc : s[k].toNat = 58) (hp : endW false (us s) = endW false ((us s).drop k) + k) : endW false (us s) = k := by
  rw [hp, drop_us s k h, endW, if_neg (by rintro (h | h); cases h; exact h hc)]; omega
theorem endW_end (s : ByteArray) (k : Nat) (i : Bool) (hk : k ≤ s.size) (h : ¬ k < s.size) (hp : endW false (us s) = endW i ((us s).drop k) + k) : endW false (us s) = k := by
  rw [hp, drop_us_end s k (by omega), endW]; omega
/-- what a host's end makes of a text -/
def WhrIs (s : ByteArray) (E : Nat) (L : List UInt8) (p : Int × Int) (R : (List UInt8 × Int) × Int) : Prop :=
  (hostS L = false ∧ R = (([], 0), 32)) ∨ (hostS L = true ∧ E = s.size ∧ R = ((L, 0), 0)) ∨ (hostS L = true ∧ E < s.size ∧ ((p.2 == 0) && decide (0 < p.1)) = true ∧ R = ((L, p.1), 0)) ∨
    (hostS L = true ∧ E < s.size ∧ ((p.2 == 0) && decide (0 < p.1)) = false ∧ R = (([], 0), 33))
theorem where_is (s : ByteArray) : endW false (us s) ≤ s.size ∧ WhrIs s (endW false (us s)) (lowr ((us s).take (endW false (us s)))) (number ((us s).drop (endW false (us s) + 1)) 65535) (whereS (us s)) := by
  have hl := endW_le (us s) false
  rw [length_us] at hl
  refine ⟨hl, ?_⟩
  unfold WhrIs whereS
  rw [length_us]
  obtain ⟨E, hE⟩ : ∃ E, E = endW false (us s) := ⟨_, rfl⟩
  rw [← hE] at hl ⊢
  cases hh : hostS (lowr ((us s).take E))
  · exact .inl ⟨rfl, if_pos rfl⟩
  · rw [if_neg (by decide)]
    by_cases h : s.size ≤ E
    · exact .inr (.inl ⟨rfl, by omega, if_pos h⟩)
    · rw [if_neg h]
      obtain ⟨p, hp⟩ : ∃ p, p = number ((us s).drop (E + 1)) 65535 := ⟨_, rfl⟩
      rw [← hp]
      by_cases hn : p.2 = 0 ∧ 0 < p.1
      · exact .inr (.inr (.inl ⟨rfl, by omega, by simp [hn.1, hn.2], if_pos hn⟩))
      · refine .inr (.inr (.inr ⟨rfl, by omega, ?_, if_neg hn⟩))
        cases hq : (p.2 == 0)
        · rfl
        · rw [Bool.true_and, decide_eq_false_iff_not]
          exact fun h0 => hn ⟨by simpa using hq, h0⟩

set_option maxHeartbeats 6400000 in
theorem where_c' (s : ByteArray) (hs : s.size ≤ 4294967280) (w : World) (hm : Ml w) :
    Calls Tryd.prog 30 #[.string s] w fun e w' => e = .returned (.tuple #[.string (bs (whereS (us s)).1.1), .int .i64 (whereS (us s)).1.2, .int .i64 (whereS (us s)).2]) ∧ Below w.heap.size w w' := by
  obtain ⟨hEs, hW⟩ := where_is s
  obtain ⟨E, hE⟩ : ∃ E, E = endW false (us s) := ⟨_, rfl⟩
  rw [← hE] at hEs hW
  have HM := Lib.hid hm
  have hlow : (lowr ((us s).take E)).length ≤ 4294967280 := by unfold lowr; rw [List.length_map, List.length_take, length_us]; omega
  have HL := Lib.hid (fun wx => lowerP_c (s.extract 0 E) (by rw [size_extract _ _ _ hEs]; omega) wx)
  rw [us_extract, Nat.sub_zero, List.drop_zero] at HL
  obtain ⟨L, hL⟩ : ∃ L, L = lowr ((us s).take E) := ⟨_, rfl⟩
  rw [← hL] at hW HL hlow
  obtain ⟨T, hT⟩ : ∃ T, T = bs L := ⟨_, rfl⟩
  have hTs : T.size ≤ 4294967280 := by rw [hT, size_bs]; exact hlow
  have HH := Lib.hid (fun wx (hx : Ml wx) => host_c T hTs wx hx)
  have uT : us T = L := by rw [hT, us_bs]
  rw [uT] at HH
  rw [← hT] at HL
  have HTd := Lib.hid hT
  have HP := Lib.hid (fun wx => port_c (s.extract (E + 1) s.size) (by (rw [← length_us, us_tail, List.length_drop, length_us]; omega)) wx)
  rw [us_tail] at HP
  obtain ⟨p, hp⟩ : ∃ p, p = number ((us s).drop (E + 1)) 65535 := ⟨_, rfl⟩
  rw [← hp] at hW HP
  obtain ⟨R, hR⟩ : ∃ R, R = whereS (us s) := ⟨_, rfl⟩
  rw [← hR] at hW ⊢
  have HE := Lib.hid hE
  have hRf : Below w.heap.size w w := Below.refl _ _
  obtain ⟨pn, pe⟩ := p
  dsimp only at hW HP
  clear hE hL hlow hT uT hp hR hm
  unfold WhrIs at hW
  dsimp only at hW
  rcases hW with ⟨hh, rfl⟩ | ⟨hh, hE2, rfl⟩ | ⟨hh, hE2, hn, rfl⟩ | ⟨hh, hE2, hn, rfl⟩
  · rw [hh] at HH
    clear hh
    go_enter Tryd.func30, Tryd.ntmps30
    go_wp2
    go_loop [5, 6] (fun i b => ∃ (k : Nat) (q : Bool), k ≤ s.size ∧ i = .int .i64 k ∧ b = .bool q ∧ endW false (us s) = endW q ((us s).drop k) + k) (fun i _ => s.size - (intOf i).toNat)
    case atStart => exact ⟨0, false, Nat.zero_le _, rfl, rfl, rfl⟩
    case round =>
      obtain ⟨k, q, hk, rfl, rfl, hp⟩ := hrel
      have HPP := Lib.hid hp; clear hp
      by_cases hlt : k < s.size
      · by_cases hc : q = true ∨ s[k].toNat ≠ 58
        · have HN := Lib.hid (endW_step s k q hlt hc HPP.out)
          cases q
          · have t1 : ((s[k].toNat : Int) != 58) = true := by (rcases hc with h | h; cases h; simp; omega)
            by_cases h91 : s[k].toNat = 91
            · have t2 : ((s[k].toNat : Int) == 91) = true := by simp [h91]
              have t3 : ((s[k].toNat : Int) == 93) = false := by simp [h91]
              have t4 : ((s[k].toNat : Int) != 93) = true := by simp [h91]
              have HB := Lib.hid (show endW false (us s) = endW true ((us s).drop (k + 1)) + (k + 1) by have h := HN.out; rw [show (s[k].toNat == 91 || (false && !(s[k].toNat == 93))) = true by simp [h91]] at h; exact h)
              clear h91 hc
              go_wp2
              go_round
              case rel => exact ⟨k + 1, true, by omega, by go_num, rfl, HB.out⟩
              case measure => simp [intOf]; omega
            · have t2 : ((s[k].toNat : Int) == 91) = false := by simp; omega
              by_cases h93 : s[k].toNat = 93
              · have t3 : ((s[k].toNat : Int) == 93) = true := by simp [h93]
                have t4 : ((s[k].toNat : Int) != 93) = false := by simp [h93]
                have HB := Lib.hid (show endW false (us s) = endW false ((us s).drop (k + 1)) + (k + 1) by have h := HN.out; rw [show (s[k].toNat == 91 || (false && !(s[k].toNat == 93))) = false by simp [h93]] at h; exact h)
                clear h91 h93 hc
                go_wp2
                go_round
                case rel => exact ⟨k + 1, false, by omega, by go_num, rfl, HB.out⟩
                case measure => simp [intOf]; omega
              · have t3 : ((s[k].toNat : Int) == 93) = false := by simp; omega
                have t4 : ((s[k].toNat : Int) != 93) = true := by simp; omega
                have HB := Lib.hid (show endW false (us s) = endW false ((us s).drop (k + 1)) + (k + 1) by have h := HN.out; rw [show (s[k].toNat == 91 || (false && !(s[k].toNat == 93))) = false by simp [h91]] at h; exact h)
                clear h91 h93 hc
                go_wp2
                go_round
                case rel => exact ⟨k + 1, false, by omega, by go_num, rfl, HB.out⟩
                case measure => simp [intOf]; omega
          · by_cases h91 : s[k].toNat = 91
            · have t2 : ((s[k].toNat : Int) == 91) = true := by simp [h91]
              have t3 : ((s[k].toNat : Int) == 93) = false := by simp [h91]
              have t4 : ((s[k].toNat : Int) != 93) = true := by simp [h91]
              have HB := Lib.hid (show endW false (us s) = endW true ((us s).drop (k + 1)) + (k + 1) by have h := HN.out; rw [show (s[k].toNat == 91 || (true && !(s[k].toNat == 93))) = true by simp [h91]] at h; exact h)
              clear h91 hc
              go_wp2
              go_round
              case rel => exact ⟨k + 1, true, by omega, by go_num, rfl, HB.out⟩
              case measure => simp [intOf]; omega
            · have t2 : ((s[k].toNat : Int) == 91) = false := by simp; omega
              by_cases h93 : s[k].toNat = 93
              · have t3 : ((s[k].toNat : Int) == 93) = true := by simp [h93]
                have t4 : ((s[k].toNat : Int) != 93) = false := by simp [h93]
                have HB := Lib.hid (show endW false (us s) = endW false ((us s).drop (k + 1)) + (k + 1) by have h := HN.out; rw [show (s[k].toNat == 91 || (true && !(s[k].toNat == 93))) = false by simp [h93]] at h; exact h)
                clear h91 h93 hc
                go_wp2
                go_round
                case rel => exact ⟨k + 1, false, by omega, by go_num, rfl, HB.out⟩
                case measure => simp [intOf]; omega
              · have t3 : ((s[k].toNat : Int) == 93) = false := by simp; omega
                have t4 : ((s[k].toNat : Int) != 93) = true := by simp; omega
                have HB := Lib.hid (show endW false (us s) = endW true ((us s).drop (k + 1)) + (k + 1) by have h := HN.out; rw [show (s[k].toNat == 91 || (true && !(s[k].toNat == 93))) = true by simp [h91, h93]] at h; exact h)
                clear h91 h93 hc
                go_wp2
                go_round
                case rel => exact ⟨k + 1, true, by omega, by go_num, rfl, HB.out⟩
                case measure => simp [intOf]; omega
        · obtain ⟨rfl, h58⟩ : q = false ∧ s[k].toNat = 58 := by
            cases q
            · exact ⟨rfl, by (by_cases h : s[k].toNat = 58; exact h; exact absurd (.inr h) hc)⟩
            · exact absurd (.inl rfl) hc
          have hEk : E = k := HE.out.trans (endW_stop s k hlt h58 HPP.out)
          have t1 : ((s[k].toNat : Int) != 58) = false := by simp [h58]
          clear hc h58
          subst hEk
          go_wp2_with (first | (go_at_call 26; refine (HL.out _).mono ?_; rintro e w1 ⟨rfl, hB1⟩) | (go_at_call 45; refine (HH.out _ (HM.out.below hB1)).mono ?_; rintro e w2 ⟨rfl, hC2⟩; have hB2 := hB1.trans (hC2.mono hB1.size)) | (go_at_call 46; refine (HP.out _).mono ?_; rintro e w3 ⟨rfl, rfl⟩))
          go_ret3
          exact ⟨by first | rfl | (rw [HTd.out]; rfl), by first | exact hB2 | exact hB1⟩
      · have hEk : E = k := HE.out.trans (endW_end s k q hk hlt HPP.out)
        subst hEk
        go_wp2_with (first | (go_at_call 26; refine (HL.out _).mono ?_; rintro e w1 ⟨rfl, hB1⟩) | (go_at_call 45; refine (HH.out _ (HM.out.below hB1)).mono ?_; rintro e w2 ⟨rfl, hC2⟩; have hB2 := hB1.trans (hC2.mono hB1.size)) | (go_at_call 46; refine (HP.out _).mono ?_; rintro e w3 ⟨rfl, rfl⟩))
        go_ret3
        exact ⟨by first | rfl | (rw [HTd.out]; rfl), by first | exact hB2 | exact hB1⟩
  · rw [hh] at HH
    clear hh
    have HE2 := Lib.hid hE2
    clear hE2
    go_enter Tryd.func30, Tryd.ntmps30
    go_wp2
    go_loop [5, 6] (fun i b => ∃ (k : Nat) (q : Bool), k ≤ s.size ∧ i = .int .i64 k ∧ b = .bool q ∧ endW false (us s) = endW q ((us s).drop k) + k) (fun i _ => s.size - (intOf i).toNat)
    case atStart => exact ⟨0, false, Nat.zero_le _, rfl, rfl, rfl⟩
    case round =>
      obtain ⟨k, q, hk, rfl, rfl, hp⟩ := hrel
      have HPP := Lib.hid hp; clear hp
      by_cases hlt : k < s.size
      · by_cases hc : q = true ∨ s[k].toNat ≠ 58
        · have HN := Lib.hid (endW_step s k q hlt hc HPP.out)
          cases q
          · have t1 : ((s[k].toNat : Int) != 58) = true := by (rcases hc with h | h; cases h; simp; omega)
            by_cases h91 : s[k].toNat = 91
            · have t2 : ((s[k].toNat : Int) == 91) = true := by simp [h91]
              have t3 : ((s[k].toNat : Int) == 93) = false := by simp [h91]
              have t4 : ((s[k].toNat : Int) != 93) = true := by simp [h91]
              have HB := Lib.hid (show endW false (us s) = endW true ((us s).drop (k + 1)) + (k + 1) by have h := HN.out; rw [show (s[k].toNat == 91 || (false && !(s[k].toNat == 93))) = true by simp [h91]] at h; exact h)
              clear h91 hc
              go_wp2
              go_round
              case rel => exact ⟨k + 1, true, by omega, by go_num, rfl, HB.out⟩
              case measure => simp [intOf]; omega
            · have t2 : ((s[k].toNat : Int) == 91) = false := by simp; omega
              by_cases h93 : s[k].toNat = 93
              · have t3 : ((s[k].toNat : Int) == 93) = true := by simp [h93]
                have t4 : ((s[k].toNat : Int) != 93) = false := by simp [h93]
                have HB := Lib.hid (show endW false (us s) = endW false ((us s).drop (k + 1)) + (k + 1) by have h := HN.out; rw [show (s[k].toNat == 91 || (false && !(s[k].toNat == 93))) = false by simp [h93]] at h; exact h)
                clear h91 h93 hc
                go_wp2
                go_round
                case rel => exact ⟨k + 1, false, by omega, by go_num, rfl, HB.out⟩
                case measure => simp [intOf]; omega
              · have t3 : ((s[k].toNat : Int) == 93) = false := by simp; omega
                have t4 : ((s[k].toNat : Int) != 93) = true := by simp; omega
                have HB := Lib.hid (show endW false (us s) = endW false ((us s).drop (k + 1)) + (k + 1) by have h := HN.out; rw [show (s[k].toNat == 91 || (false && !(s[k].toNat == 93))) = false by simp [h91]] at h; exact h)
                clear h91 h93 hc
                go_wp2
                go_round
                case rel => exact ⟨k + 1, false, by omega, by go_num, rfl, HB.out⟩
                case measure => simp [intOf]; omega
          · by_cases h91 : s[k].toNat = 91
            · have t2 : ((s[k].toNat : Int) == 91) = true := by simp [h91]
              have t3 : ((s[k].toNat : Int) == 93) = false := by simp [h91]
              have t4 : ((s[k].toNat : Int) != 93) = true := by simp [h91]
              have HB := Lib.hid (show endW false (us s) = endW true ((us s).drop (k + 1)) + (k + 1) by have h := HN.out; rw [show (s[k].toNat == 91 || (true && !(s[k].toNat == 93))) = true by simp [h91]] at h; exact h)
              clear h91 hc
              go_wp2
              go_round
              case rel => exact ⟨k + 1, true, by omega, by go_num, rfl, HB.out⟩
              case measure => simp [intOf]; omega
            · have t2 : ((s[k].toNat : Int) == 91) = false := by simp; omega
              by_cases h93 : s[k].toNat = 93
              · have t3 : ((s[k].toNat : Int) == 93) = true := by simp [h93]
                have t4 : ((s[k].toNat : Int) != 93) = false := by simp [h93]
                have HB := Lib.hid (show endW false (us s) = endW false ((us s).drop (k + 1)) + (k + 1) by have h := HN.out; rw [show (s[k].toNat == 91 || (true && !(s[k].toNat == 93))) = false by simp [h93]] at h; exact h)
                clear h91 h93 hc
                go_wp2
                go_round
                case rel => exact ⟨k + 1, false, by omega, by go_num, rfl, HB.out⟩
                case measure => simp [intOf]; omega
              · have t3 : ((s[k].toNat : Int) == 93) = false := by simp; omega
                have t4 : ((s[k].toNat : Int) != 93) = true := by simp; omega
                have HB := Lib.hid (show endW false (us s) = endW true ((us s).drop (k + 1)) + (k + 1) by have h := HN.out; rw [show (s[k].toNat == 91 || (true && !(s[k].toNat == 93))) = true by simp [h91, h93]] at h; exact h)
                clear h91 h93 hc
                go_wp2
                go_round
                case rel => exact ⟨k + 1, true, by omega, by go_num, rfl, HB.out⟩
                case measure => simp [intOf]; omega
        · obtain ⟨rfl, h58⟩ : q = false ∧ s[k].toNat = 58 := by
            cases q
            · exact ⟨rfl, by (by_cases h : s[k].toNat = 58; exact h; exact absurd (.inr h) hc)⟩
            · exact absurd (.inl rfl) hc
          have hEk : E = k := HE.out.trans (endW_stop s k hlt h58 HPP.out)
          have t1 : ((s[k].toNat : Int) != 58) = false := by simp [h58]
          clear hc h58
          subst hEk
          have := HE2.out
          omega
      · have hEk : E = k := HE.out.trans (endW_end s k q hk hlt HPP.out)
        subst hEk
        have t5 : ((E : Int) == (s.size : Int)) = true := by (rw [← HE2.out]; simp)
        go_wp2_with (first | (go_at_call 26; refine (HL.out _).mono ?_; rintro e w1 ⟨rfl, hB1⟩) | (go_at_call 45; refine (HH.out _ (HM.out.below hB1)).mono ?_; rintro e w2 ⟨rfl, hC2⟩; have hB2 := hB1.trans (hC2.mono hB1.size)) | (go_at_call 46; refine (HP.out _).mono ?_; rintro e w3 ⟨rfl, rfl⟩))
        go_ret3
        exact ⟨by first | rfl | (rw [HTd.out]; rfl), by first | exact hB2 | exact hB1⟩
  · rw [hh] at HH
    clear hh
    rw [hn] at HP
    clear hn
    go_enter Tryd.func30, Tryd.ntmps30
    go_wp2
    go_loop [5, 6] (fun i b => ∃ (k : Nat) (q : Bool), k ≤ s.size ∧ i = .int .i64 k ∧ b = .bool q ∧ endW false (us s) = endW q ((us s).drop k) + k) (fun i _ => s.size - (intOf i).toNat)
    case atStart => exact ⟨0, false, Nat.zero_le _, rfl, rfl, rfl⟩
    case round =>
      obtain ⟨k, q, hk, rfl, rfl, hp⟩ := hrel
      have HPP := Lib.hid hp; clear hp
      by_cases hlt : k < s.size
      · by_cases hc : q = true ∨ s[k].toNat ≠ 58
        · have HN := Lib.hid (endW_step s k q hlt hc HPP.out)
          cases q
          · have t1 : ((s[k].toNat : Int) != 58) = true := by (rcases hc with h | h; cases h; simp; omega)
            by_cases h91 : s[k].toNat = 91
            · have t2 : ((s[k].toNat : Int) == 91) = true := by simp [h91]
              have t3 : ((s[k].toNat : Int) == 93) = false := by simp [h91]
              have t4 : ((s[k].toNat : Int) != 93) = true := by simp [h91]
              have HB := Lib.hid (show endW false (us s) = endW true ((us s).drop (k + 1)) + (k + 1) by have h := HN.out; rw [show (s[k].toNat == 91 || (false && !(s[k].toNat == 93))) = true by simp [h91]] at h; exact h)
              clear h91 hc
              go_wp2
              go_round
              case rel => exact ⟨k + 1, true, by omega, by go_num, rfl, HB.out⟩
              case measure => simp [intOf]; omega
            · have t2 : ((s[k].toNat : Int) == 91) = false := by simp; omega
              by_cases h93 : s[k].toNat = 93
              · have t3 : ((s[k].toNat : Int) == 93) = true := by simp [h93]
                have t4 : ((s[k].toNat : Int) != 93) = false := by simp [h93]
                have HB := Lib.hid (show endW false (us s) = endW false ((us s).drop (k + 1)) + (k + 1) by have h := HN.out; rw [show (s[k].toNat == 91 || (false && !(s[k].toNat == 93))) = false by simp [h93]] at h; exact h)
                clear h91 h93 hc
                go_wp2
                go_round
                case rel => exact ⟨k + 1, false, by omega, by go_num, rfl, HB.out⟩
                case measure => simp [intOf]; omega
              · have t3 : ((s[k].toNat : Int) == 93) = false := by simp; omega
                have t4 : ((s[k].toNat : Int) != 93) = true := by simp; omega
                have HB := Lib.hid (show endW false (us s) = endW false ((us s).drop (k + 1)) + (k + 1) by have h := HN.out; rw [show (s[k].toNat == 91 || (false && !(s[k].toNat == 93))) = false by simp [h91]] at h; exact h)
                clear h91 h93 hc
                go_wp2
                go_round
                case rel => exact ⟨k + 1, false, by omega, by go_num, rfl, HB.out⟩
                case measure => simp [intOf]; omega
          · by_cases h91 : s[k].toNat = 91
            · have t2 : ((s[k].toNat : Int) == 91) = true := by simp [h91]
              have t3 : ((s[k].toNat : Int) == 93) = false := by simp [h91]
              have t4 : ((s[k].toNat : Int) != 93) = true := by simp [h91]
              have HB := Lib.hid (show endW false (us s) = endW true ((us s).drop (k + 1)) + (k + 1) by have h := HN.out; rw [show (s[k].toNat == 91 || (true && !(s[k].toNat == 93))) = true by simp [h91]] at h; exact h)
              clear h91 hc
              go_wp2
              go_round
              case rel => exact ⟨k + 1, true, by omega, by go_num, rfl, HB.out⟩
              case measure => simp [intOf]; omega
            · have t2 : ((s[k].toNat : Int) == 91) = false := by simp; omega
              by_cases h93 : s[k].toNat = 93
              · have t3 : ((s[k].toNat : Int) == 93) = true := by simp [h93]
                have t4 : ((s[k].toNat : Int) != 93) = false := by simp [h93]
                have HB := Lib.hid (show endW false (us s) = endW false ((us s).drop (k + 1)) + (k + 1) by have h := HN.out; rw [show (s[k].toNat == 91 || (true && !(s[k].toNat == 93))) = false by simp [h93]] at h; exact h)
                clear h91 h93 hc
                go_wp2
                go_round
                case rel => exact ⟨k + 1, false, by omega, by go_num, rfl, HB.out⟩
                case measure => simp [intOf]; omega
              · have t3 : ((s[k].toNat : Int) == 93) = false := by simp; omega
                have t4 : ((s[k].toNat : Int) != 93) = true := by simp; omega
                have HB := Lib.hid (show endW false (us s) = endW true ((us s).drop (k + 1)) + (k + 1) by have h := HN.out; rw [show (s[k].toNat == 91 || (true && !(s[k].toNat == 93))) = true by simp [h91, h93]] at h; exact h)
                clear h91 h93 hc
                go_wp2
                go_round
                case rel => exact ⟨k + 1, true, by omega, by go_num, rfl, HB.out⟩
                case measure => simp [intOf]; omega
        · obtain ⟨rfl, h58⟩ : q = false ∧ s[k].toNat = 58 := by
            cases q
            · exact ⟨rfl, by (by_cases h : s[k].toNat = 58; exact h; exact absurd (.inr h) hc)⟩
            · exact absurd (.inl rfl) hc
          have hEk : E = k := HE.out.trans (endW_stop s k hlt h58 HPP.out)
          have t1 : ((s[k].toNat : Int) != 58) = false := by simp [h58]
          clear hc h58
          subst hEk
          have t5 : ((E : Int) == (s.size : Int)) = false := by (rw [beq_eq_false_iff_ne]; omega)
          go_wp2_with (first | (go_at_call 26; refine (HL.out _).mono ?_; rintro e w1 ⟨rfl, hB1⟩) | (go_at_call 45; refine (HH.out _ (HM.out.below hB1)).mono ?_; rintro e w2 ⟨rfl, hC2⟩; have hB2 := hB1.trans (hC2.mono hB1.size)) | (go_at_call 46; refine (HP.out _).mono ?_; rintro e w3 ⟨rfl, rfl⟩))
          go_ret3
          exact ⟨by first | rfl | (rw [HTd.out]; rfl), by first | exact hB2 | exact hB1⟩
      · have hEk : E = k := HE.out.trans (endW_end s k q hk hlt HPP.out)
        subst hEk
        omega
  · rw [hh] at HH
    clear hh
    rw [hn] at HP
    clear hn
    go_enter Tryd.func30, Tryd.ntmps30
    go_wp2
    go_loop [5, 6] (fun i b => ∃ (k : Nat) (q : Bool), k ≤ s.size ∧ i = .int .i64 k ∧ b = .bool q ∧ endW false (us s) = endW q ((us s).drop k) + k) (fun i _ => s.size - (intOf i).toNat)
    case atStart => exact ⟨0, false, Nat.zero_le _, rfl, rfl, rfl⟩
    case round =>
      obtain ⟨k, q, hk, rfl, rfl, hp⟩ := hrel
      have HPP := Lib.hid hp; clear hp
      by_cases hlt : k < s.size
      · by_cases hc : q = true ∨ s[k].toNat ≠ 58
        · have HN := Lib.hid (endW_step s k q hlt hc HPP.out)
          cases q
          · have t1 : ((s[k].toNat : Int) != 58) = true := by (rcases hc with h | h; cases h; simp; omega)
            by_cases h91 : s[k].toNat = 91
            · have t2 : ((s[k].toNat : Int) == 91) = true := by simp [h91]
              have t3 : ((s[k].toNat : Int) == 93) = false := by simp [h91]
              have t4 : ((s[k].toNat : Int) != 93) = true := by simp [h91]
              have HB := Lib.hid (show endW false (us s) = endW true ((us s).drop (k + 1)) + (k + 1) by have h := HN.out; rw [show (s[k].toNat == 91 || (false && !(s[k].toNat == 93))) = true by simp [h91]] at h; exact h)
              clear h91 hc
              go_wp2
              go_round
              case rel => exact ⟨k + 1, true, by omega, by go_num, rfl, HB.out⟩
              case measure => simp [intOf]; omega
            · have t2 : ((s[k].toNat : Int) == 91) = false := by simp; omega
              by_cases h93 : s[k].toNat = 93
              · have t3 : ((s[k].toNat : Int) == 93) = true := by simp [h93]
                have t4 : ((s[k].toNat : Int) != 93) = false := by simp [h93]
                have HB := Lib.hid (show endW false (us s) = endW false ((us s).drop (k + 1)) + (k + 1) by have h := HN.out; rw [show (s[k].toNat == 91 || (false && !(s[k].toNat == 93))) = false by simp [h93]] at h; exact h)
                clear h91 h93 hc
                go_wp2
                go_round
                case rel => exact ⟨k + 1, false, by omega, by go_num, rfl, HB.out⟩
                case measure => simp [intOf]; omega
              · have t3 : ((s[k].toNat : Int) == 93) = false := by simp; omega
                have t4 : ((s[k].toNat : Int) != 93) = true := by simp; omega
                have HB := Lib.hid (show endW false (us s) = endW false ((us s).drop (k + 1)) + (k + 1) by have h := HN.out; rw [show (s[k].toNat == 91 || (false && !(s[k].toNat == 93))) = false by simp [h91]] at h; exact h)
                clear h91 h93 hc
                go_wp2
                go_round
                case rel => exact ⟨k + 1, false, by omega, by go_num, rfl, HB.out⟩
                case measure => simp [intOf]; omega
          · by_cases h91 : s[k].toNat = 91
            · have t2 : ((s[k].toNat : Int) == 91) = true := by simp [h91]
              have t3 : ((s[k].toNat : Int) == 93) = false := by simp [h91]
              have t4 : ((s[k].toNat : Int) != 93) = true := by simp [h91]
              have HB := Lib.hid (show endW false (us s) = endW true ((us s).drop (k + 1)) + (k + 1) by have h := HN.out; rw [show (s[k].toNat == 91 || (true && !(s[k].toNat == 93))) = true by simp [h91]] at h; exact h)
              clear h91 hc
              go_wp2
              go_round
              case rel => exact ⟨k + 1, true, by omega, by go_num, rfl, HB.out⟩
              case measure => simp [intOf]; omega
            · have t2 : ((s[k].toNat : Int) == 91) = false := by simp; omega
              by_cases h93 : s[k].toNat = 93
              · have t3 : ((s[k].toNat : Int) == 93) = true := by simp [h93]
                have t4 : ((s[k].toNat : Int) != 93) = false := by simp [h93]
                have HB := Lib.hid (show endW false (us s) = endW false ((us s).drop (k + 1)) + (k + 1) by have h := HN.out; rw [show (s[k].toNat == 91 || (true && !(s[k].toNat == 93))) = false by simp [h93]] at h; exact h)
                clear h91 h93 hc
                go_wp2
                go_round
                case rel => exact ⟨k + 1, false, by omega, by go_num, rfl, HB.out⟩
                case measure => simp [intOf]; omega
              · have t3 : ((s[k].toNat : Int) == 93) = false := by simp; omega
                have t4 : ((s[k].toNat : Int) != 93) = true := by simp; omega
                have HB := Lib.hid (show endW false (us s) = endW true ((us s).drop (k + 1)) + (k + 1) by have h := HN.out; rw [show (s[k].toNat == 91 || (true && !(s[k].toNat == 93))) = true by simp [h91, h93]] at h; exact h)
                clear h91 h93 hc
                go_wp2
                go_round
                case rel => exact ⟨k + 1, true, by omega, by go_num, rfl, HB.out⟩
                case measure => simp [intOf]; omega
        · obtain ⟨rfl, h58⟩ : q = false ∧ s[k].toNat = 58 := by
            cases q
            · exact ⟨rfl, by (by_cases h : s[k].toNat = 58; exact h; exact absurd (.inr h) hc)⟩
            · exact absurd (.inl rfl) hc
          have hEk : E = k := HE.out.trans (endW_stop s k hlt h58 HPP.out)
          have t1 : ((s[k].toNat : Int) != 58) = false := by simp [h58]
          clear hc h58
          subst hEk
          have t5 : ((E : Int) == (s.size : Int)) = false := by (rw [beq_eq_false_iff_ne]; omega)
          go_wp2_with (first | (go_at_call 26; refine (HL.out _).mono ?_; rintro e w1 ⟨rfl, hB1⟩) | (go_at_call 45; refine (HH.out _ (HM.out.below hB1)).mono ?_; rintro e w2 ⟨rfl, hC2⟩; have hB2 := hB1.trans (hC2.mono hB1.size)) | (go_at_call 46; refine (HP.out _).mono ?_; rintro e w3 ⟨rfl, rfl⟩))
          go_ret3
          exact ⟨by first | rfl | (rw [HTd.out]; rfl), by first | exact hB2 | exact hB1⟩
      · have hEk : E = k := HE.out.trans (endW_end s k q hk hlt HPP.out)
        subst hEk
        omega

end Go.Proofs.YtbljmjbialinkaaDoor
