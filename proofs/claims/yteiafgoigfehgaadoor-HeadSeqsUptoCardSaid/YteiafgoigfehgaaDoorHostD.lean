/-
  rosterref03.Host.
-/
import Derived.Test.YteiafgoigfehgaaDoorHostC
namespace Go.Proofs.YteiafgoigfehgaaDoor
open Go.RowKit

set_option maxRecDepth 100000 in
set_option maxHeartbeats 1600000 in
theorem hostR_six (s : ByteArray) (h1 : 1 ≤ s.size) (h64 : s.size ≤ 64) (hb : s[0].toNat = 91) (hlow : lowr (us s) = us s) (w : World) :
    Calls Tryd.prog 88 #[.string s] w fun e w' => e = .returned (.bool (sixS (us s))) ∧ Below w.heap.size w w' := by
  have HL := Lib.hid (fun wx => lowerR_c s (by omega) wx)
  rw [hlow, bs_us] at HL
  have t1 : ((s[0].toNat : Int) == 91) = true := by simp [hb]
  have hz : ((s.size : Int) == 0) = false := by rw [beq_eq_false_iff_ne]; omega
  clear hlow hb
  go_enter Tryd.func88, Tryd.ntmps88
  go_wp2_with (go_at_call 41; refine (HL.out _).mono ?_; rintro e w1 ⟨rfl, hC⟩)
  go_loop [3, 4] (fun n i => ∃ k : Nat, 1 ≤ k ∧ (k = 1 ∨ k + 1 ≤ s.size) ∧ i = .int .i64 k ∧ n = .int .i64 (colons (inner (us s) k) : Nat) ∧ (inner (us s) k).all sixb = true) (fun _ i => s.size - (intOf i).toNat)
  case atStart => exact ⟨1, Nat.le_refl _, .inl rfl, rfl, by rw [inner_one]; rfl, by rw [inner_one]; rfl⟩
  case round =>
    obtain ⟨k, hk0, hk, rfl, rfl, hb⟩ := hrel
    have HB := Lib.hid hb; clear hb
    have hcl : colons (inner (us s) k) ≤ s.size := by rw [← length_us]; exact colons_le _ _
    by_cases hlt : k + 1 < s.size
    · by_cases c1 : s[k].toNat = 58
      · have a1 : ((s[k].toNat : Int) == 58) = true := by simp [c1]
        have HA := Lib.hid (inner_all s k hk0 (by omega) (sixb_colon _ c1) HB.out)
        have HC := Lib.hid (colons_yes s k hk0 (by omega) c1)
        clear c1
        go_wp2
        go_round
        case rel => exact ⟨k + 1, by omega, by omega, by go_num, by rw [HC.out]; go_num, HA.out⟩
        case measure => simp [intOf]; omega
      · have a1 : ((s[k].toNat : Int) == 58) = false := by simp; omega
        have HC := Lib.hid (colons_no s k hk0 (by omega) c1)
        by_cases c2 : s[k].toNat = 46
        · have a2 : ((s[k].toNat : Int) != 46) = false := by simp [c2]
          have HA := Lib.hid (inner_all s k hk0 (by omega) (sixb_dot _ c2) HB.out)
          clear c1 c2
          go_wp2
          go_round
          case rel => exact ⟨k + 1, by omega, by omega, by go_num, by rw [HC.out], HA.out⟩
          case measure => simp [intOf]; omega
        · have a2 : ((s[k].toNat : Int) != 46) = true := by simp; omega
          by_cases ht : (bits BinOp.and IntKind.i64 (cls s[k]) 4 == 0) = true
          · have HN := Lib.hid (sixS_bad s (inner_bad s k hk0 hlt (sixb_no _ c1 c2 (testc_t 4 _ ht))))
            clear c1 c2
            go_wp2_with (go_at_call 52; refine (classR_c _ _).mono ?_; rintro e w' ⟨rfl, rfl⟩)
            go_ret
            exact ⟨ret_bool (by rw [HN.out]), hC⟩
          · have ht' : (bits BinOp.and IntKind.i64 (cls s[k]) 4 == 0) = false := by simpa using ht
            clear ht
            have HA := Lib.hid (inner_all s k hk0 (by omega) (sixb_hex _ (testc_f 4 _ ht')) HB.out)
            clear c1 c2
            go_wp2_with (go_at_call 52; refine (classR_c _ _).mono ?_; rintro e w' ⟨rfl, rfl⟩)
            go_round
            case rel => exact ⟨k + 1, by omega, by omega, by go_num, by rw [HC.out], HA.out⟩
            case measure => simp [intOf]; omega
    · by_cases h4 : s.size < 4
      · have HN := Lib.hid (sixS_short (us s) (by rw [length_us]; exact h4))
        go_wp2
        all_goals
          go_ret
          exact ⟨ret_bool (by rw [HN.out]; try (simp; omega)), hC⟩
      · obtain rfl : k = s.size - 1 := by omega
        have q1 : s.size - 1 < s.size := by omega
        have q2 : (0 : Int) ≤ (s.size : Int) - 1 := by omega
        have q3 : ((s.size : Int) - 1).toNat = s.size - 1 := by omega
        by_cases hl : s[s.size - 1].toNat = 93
        · have HX := Lib.hid (sixS_end s (by omega) hl HB.out)
          have t2 : ((s[s.size - 1].toNat : Int) == 93) = true := by simp [hl]
          clear hl
          go_wp2
          all_goals
            go_ret
            exact ⟨ret_bool (by rw [HX.out]; simp; omega), hC⟩
        · have HN := Lib.hid (sixS_last s (by omega) hl)
          have t2 : ((s[s.size - 1].toNat : Int) == 93) = false := by simp; omega
          clear hl
          go_wp2
          all_goals
            go_ret
            exact ⟨ret_bool (by rw [HN.out]), hC⟩

set_option maxRecDepth 100000 in
set_option maxHeartbeats 1600000 in
theorem hostR_c (s : ByteArray) (hs : s.size ≤ 4294967280) (w : World) :
    Calls Tryd.prog 88 #[.string s] w fun e w' => e = .returned (.bool (hostS (us s))) ∧ Below w.heap.size w w' := by
  have hR : Below w.heap.size w w := Below.refl _ _
  by_cases hz : s.size = 0
  · have HN := Lib.hid (host_no (us s) (.inl (by rw [length_us]; exact hz)))
    have hz' : ((s.size : Int) == 0) = true := by simp [hz]
    clear hz
    go_enter Tryd.func88, Tryd.ntmps88
    go_wp2
    all_goals
      go_ret
      exact ⟨ret_bool (by rw [HN.out]), hR⟩
  have hz' : ((s.size : Int) == 0) = false := by rw [beq_eq_false_iff_ne]; omega
  by_cases h64 : 64 < s.size
  · have HN := Lib.hid (host_no (us s) (.inr (.inl (by rw [length_us]; exact h64))))
    go_enter Tryd.func88, Tryd.ntmps88
    go_wp2
    all_goals
      go_ret
      exact ⟨ret_bool (by rw [HN.out]), hR⟩
  have HL := Lib.hid (fun wx => lowerR_c s (by omega) wx)
  by_cases hlow : lowr (us s) = us s
  case neg =>
    have HN := Lib.hid (host_no (us s) (.inr (.inr hlow)))
    obtain ⟨t, ht⟩ : ∃ t, t = bs (lowr (us s)) := ⟨_, rfl⟩
    have hne : (t.toList == s.toList) = false := by
      rw [toList_us, toList_us, ht, us_bs, beq_eq_false_iff_ne]; exact hlow
    rw [← ht] at HL
    clear ht hlow
    go_enter Tryd.func88, Tryd.ntmps88
    go_wp2_with (go_at_call 41; refine (HL.out _).mono ?_; rintro e w1 ⟨rfl, hC⟩)
    go_ret
    exact ⟨ret_bool (by rw [HN.out]), hC⟩
  case pos =>
    have h0 : 0 < s.size := by omega
    by_cases hb : s[0].toNat = 91
    · rw [host_six s h0 (by omega) hlow hb]
      exact hostR_six s h0 (by omega) hb hlow w
    · rw [hlow, bs_us] at HL
      have HN := Lib.hid (host_split s h0 (by omega) hlow hb)
      have H6 := Lib.hid (fun wx => splitR_c s (by omega) 46 wx)
      have t1 : ((s[0].toNat : Int) == 91) = false := by simp; omega
      have HBD := Lib.hid (fun p hp => Nat.le_trans (splitc_bd 46 (us s) p hp) (by rw [length_us]; exact hs))
      clear hlow hb
      obtain ⟨L, hL⟩ : ∃ L, L = splitc 46 (us s) := ⟨_, rfl⟩
      rw [← hL] at HN H6 HBD
      clear hL
      go_enter Tryd.func88, Tryd.ntmps88
      go_wp2_with (first | (go_at_call 41; refine (HL.out _).mono ?_; rintro e w1 ⟨rfl, hC⟩) | (go_at_call 101; refine (H6.out _).mono ?_; rintro e w2 ⟨v, rfl, hv, hC2⟩; obtain ⟨ao, cap, rfl, hm1, c1⟩ := hv.form; have C1 := Lib.hid c1; clear c1 hv; have HW := Lib.hid (hC.trans (hC2.mono hC.size)); clear hC hC2))
      unfold maxLen at hm1
      go_loop [6] (fun i => ∃ k : Nat, k ≤ L.length ∧ i = .int .i64 k ∧ (L.take k).all label = true) (fun i => L.length - (intOf i).toNat)
      case atStart => exact ⟨0, Nat.zero_le _, rfl, rfl⟩
      case round =>
        obtain ⟨k, hk, rfl, hb⟩ := hrel
        have HB := Lib.hid hb; clear hb
        by_cases hlt : k < L.length
        · obtain ⟨b, off, rfl, hb1, hc1⟩ := C1.out (by omega)
          have x1 := hc1 k hlt
          have k0 : (0 : Int) ≤ (k : Int) := by omega
          have k1 : (k : Int) < (L.length : Int) := by omega
          clear hc1
          have HX := Lib.hid (fun h => HN.out.trans (labels_bad L k hlt h))
          have HY := Lib.hid (fun h => labels_next L k hlt h HB.out)
          have hps := HBD.out _ (List.getElem_mem hlt)
          obtain ⟨P, hP⟩ : ∃ P, P = bs L[k] := ⟨_, rfl⟩
          have hPu : L[k] = us P := by rw [hP]; simp
          rw [← hP] at x1
          rw [hPu] at HX HY hps
          rw [length_us] at hps
          clear hP hPu
          have HA := Lib.hid (fun wx => allR_c P (by omega) 64 wx)
          by_cases pz : P.size = 0
          · have HF := Lib.hid (HX.out (label_zero P pz))
            obtain rfl := eq_empty pz
            go_wp2
            all_goals
              go_ret
              exact ⟨ret_bool (by rw [HF.out]), HW.out⟩
          have pE := ne_empty pz
          have pF := isEmpty_f pz
          have p0 : 0 < P.size := by omega
          cases ha : allc 64 (us P) with
          | false =>
            have HF := Lib.hid (HX.out (label_all P ha))
            rw [ha] at HA; clear ha
            go_wp2_with (go_at_call 62; refine (HA.out _).mono ?_; rintro e w3 ⟨rfl, rfl⟩)
            go_ret
            exact ⟨ret_bool (by rw [HF.out]), HW.out⟩
          | true =>
            by_cases d0 : P[0].toNat = 45
            · have HF := Lib.hid (HX.out (label_head P p0 d0))
              have t2 : ((P[0].toNat : Int) == 45) = true := by simp [d0]
              rw [ha] at HA; clear ha d0
              go_wp2_with (go_at_call 62; refine (HA.out _).mono ?_; rintro e w3 ⟨rfl, rfl⟩)
              go_ret
              exact ⟨ret_bool (by rw [HF.out]), HW.out⟩
            have t2 : ((P[0].toNat : Int) == 45) = false := by simp; omega
            have q1 : P.size - 1 < P.size := by omega
            have q2 : (0 : Int) ≤ (P.size : Int) - 1 := by omega
            have q3 : ((P.size : Int) - 1).toNat = P.size - 1 := by omega
            by_cases d1 : P[P.size - 1].toNat = 45
            · have HF := Lib.hid (HX.out (label_last P p0 d1))
              have t3 : ((P[P.size - 1].toNat : Int) == 45) = true := by simp [d1]
              rw [ha] at HA; clear ha d0 d1
              go_wp2_with (go_at_call 62; refine (HA.out _).mono ?_; rintro e w3 ⟨rfl, rfl⟩)
              go_ret
              exact ⟨ret_bool (by rw [HF.out]), HW.out⟩
            · have t3 : ((P[P.size - 1].toNat : Int) == 45) = false := by simp; omega
              have HG := Lib.hid (HY.out (label_yes P p0 ha d0 d1))
              rw [ha] at HA; clear ha d0 d1
              go_wp2_with (go_at_call 62; refine (HA.out _).mono ?_; rintro e w3 ⟨rfl, rfl⟩)
              go_round
              case rel => exact ⟨k + 1, by omega, by go_num, HG.out⟩
              case measure => simp [intOf]; omega
        · have hE2 : L.take k = L := List.take_of_length_le (by omega)
          rw [hE2] at HB
          clear hE2
          go_wp2
          go_ret
          exact ⟨ret_bool (by rw [HN.out, HB.out]), HW.out⟩

end Go.Proofs.YteiafgoigfehgaaDoor
