/-
  uri.Host.
-/
import Derived.Test.YteiafgoigfehgaaDoorHostA
import Derived.Test.YteiafgoigfehgaaDoorScanK
namespace Go.Proofs.YteiafgoigfehgaaDoor
open Go.RowKit

theorem label_zero (P : ByteArray) (h : P.size = 0) : label (us P) = false := by
  unfold label; rw [length_us, h]; rfl
theorem label_all (P : ByteArray) (h : allc 64 (us P) = false) : label (us P) = false := by
  unfold label; rw [h]; simp
theorem label_head (P : ByteArray) (h : 0 < P.size) (hb : P[0].toNat = 45) : label (us P) = false := by
  unfold label
  have : ((us P).head? == some 45) = true := (head_is P h 45 (by decide)).trans (decide_eq_true hb)
  rw [this]; simp
theorem label_last (P : ByteArray) (h : 0 < P.size) (hb : P[P.size - 1].toNat = 45) : label (us P) = false := by
  unfold label
  have : ((us P).getLast? == some 45) = true := (last_is P h 45 (by decide)).trans (decide_eq_true hb)
  rw [this]; simp
theorem label_yes (P : ByteArray) (h : 0 < P.size) (ha : allc 64 (us P) = true) (h0 : ¬ P[0].toNat = 45) (h1 : ¬ P[P.size - 1].toNat = 45) : label (us P) = true := by
  unfold label
  have e0 : ((us P).head? == some 45) = false := (head_is P h 45 (by decide)).trans (decide_eq_false h0)
  have e1 : ((us P).getLast? == some 45) = false := (last_is P h 45 (by decide)).trans (decide_eq_false h1)
  rw [ha, e0, e1, length_us]; simp; omega
theorem host_no (l : List UInt8) (h : l.length = 0 ∨ 64 < l.length ∨ ¬ lowr l = l) : hostS l = false := by
  unfold hostS
  rcases h with h | h | h
  · rw [h]; rfl
  · rw [show decide (l.length ≤ 64) = false from decide_eq_false (by omega)]; simp
  · rw [show (lowr l == l) = false from by rw [beq_eq_false_iff_ne]; exact h]; simp
theorem host_six (s : ByteArray) (h0 : 0 < s.size) (h1 : s.size ≤ 64) (hl : lowr (us s) = us s) (hb : s[0].toNat = 91) : hostS (us s) = sixS (us s) := by
  unfold hostS
  have e0 : ((us s).head? == some 91) = true := (head_is s h0 91 (by decide)).trans (decide_eq_true hb)
  rw [e0, if_pos rfl, hl, length_us]; simp; omega
theorem host_split (s : ByteArray) (h0 : 0 < s.size) (h1 : s.size ≤ 64) (hl : lowr (us s) = us s) (hb : ¬ s[0].toNat = 91) : hostS (us s) = (splitc 46 (us s)).all label := by
  unfold hostS
  have e0 : ((us s).head? == some 91) = false := (head_is s h0 91 (by decide)).trans (decide_eq_false hb)
  rw [e0, if_neg (by decide), hl, length_us]; simp; omega
theorem labels_bad (L : List (List UInt8)) (k : Nat) (h : k < L.length) (hb : label L[k] = false) : L.all label = false := by
  rw [← Bool.not_eq_true, List.all_eq_true]
  intro hall
  have := hall _ (List.getElem_mem h)
  rw [hb] at this; cases this
theorem labels_next (L : List (List UInt8)) (k : Nat) (h : k < L.length) (hb : label L[k] = true) (hp : (L.take k).all label = true) : (L.take (k + 1)).all label = true := by
  rw [List.take_succ_eq_append_getElem h, List.all_append, hp]; simp [hb]
theorem splitc_bd (c : UInt8) : ∀ l : List UInt8, ∀ p ∈ splitc c l, p.length ≤ l.length
  | [], p, h => by simp [splitc] at h; rw [h]; exact Nat.le_refl _
  | x :: r, p, h => by
    rw [splitc] at h
    split at h
    · rcases List.mem_cons.1 h with rfl | h
      · simp
      · have := splitc_bd c r p h; simp; omega
    · rcases List.mem_cons.1 h with rfl | h
      · have := splitc_bd c r ((splitc c r).headD []) (by
          rw [splitc_cut]; simp)
        rw [List.length_cons, List.length_cons]; omega
      · have := splitc_bd c r p (List.mem_of_mem_tail h); simp; omega

set_option maxHeartbeats 1600000 in
theorem host_c (s : ByteArray) (hs : s.size ≤ 4294967280) (w : World) (hm : Ml w) :
    Calls Tryd.prog 89 #[.string s] w fun e w' => e = .returned (.bool (hostS (us s))) ∧ Below w.heap.size w w' := by
  have hR : Below w.heap.size w w := Below.refl _ _
  by_cases hz : s.size = 0
  · have HN := Lib.hid (host_no (us s) (.inl (by rw [length_us]; exact hz)))
    obtain rfl := eq_empty hz
    go_enter Tryd.func89, Tryd.ntmps89
    go_wp2
    all_goals
      go_ret
      exact ⟨ret_bool (by rw [HN.out]), hR⟩
  have hE := ne_empty hz
  have hF := isEmpty_f hz
  by_cases h64 : 64 < s.size
  · have HN := Lib.hid (host_no (us s) (.inr (.inl (by rw [length_us]; exact h64))))
    go_enter Tryd.func89, Tryd.ntmps89
    go_wp2
    all_goals
      go_ret
      exact ⟨ret_bool (by rw [HN.out]), hR⟩
  have HL := Lib.hid (fun wx => lowerP_c s (by omega) wx)
  by_cases hlow : lowr (us s) = us s
  case neg =>
    have HN := Lib.hid (host_no (us s) (.inr (.inr hlow)))
    obtain ⟨t, ht⟩ : ∃ t, t = bs (lowr (us s)) := ⟨_, rfl⟩
    have hne : (t.toList == s.toList) = false := by
      rw [toList_us, toList_us, ht, us_bs, beq_eq_false_iff_ne]; exact hlow
    rw [← ht] at HL
    clear ht hlow
    go_enter Tryd.func89, Tryd.ntmps89
    go_wp2_with (go_at_call 36; refine (HL.out _).mono ?_; rintro e w1 ⟨rfl, hC⟩)
    go_ret
    exact ⟨ret_bool (by rw [HN.out]), hC⟩
  case pos =>
    rw [hlow, bs_us] at HL
    have h0 : 0 < s.size := by omega
    by_cases hb : s[0].toNat = 91
    · have HN := Lib.hid (host_six s h0 (by omega) hlow hb)
      have H6 := Lib.hid (fun wx => six_c s hs wx)
      have t1 : ((s[0].toNat : Int) == 91) = true := by simp [hb]
      clear hlow hb
      go_enter Tryd.func89, Tryd.ntmps89
      go_wp2_with (first | (go_at_call 36; refine (HL.out _).mono ?_; rintro e w1 ⟨rfl, hC⟩) | (go_at_call 102; refine (H6.out _).mono ?_; rintro e w2 ⟨rfl, rfl⟩))
      go_ret
      exact ⟨ret_bool (by rw [HN.out]), hC⟩
    · have HN := Lib.hid (host_split s h0 (by omega) hlow hb)
      have H6 := Lib.hid (fun wx hx => split_c s (by omega) 46 wx hx)
      have t1 : ((s[0].toNat : Int) == 91) = false := by simp; omega
      have HBD := Lib.hid (fun p hp => Nat.le_trans (splitc_bd 46 (us s) p hp) (by rw [length_us]; exact hs))
      clear hlow hb
      obtain ⟨L, hL⟩ : ∃ L, L = splitc 46 (us s) := ⟨_, rfl⟩
      rw [← hL] at HN H6 HBD
      clear hL
      have HM := Lib.hid hm
      clear hm
      go_enter Tryd.func89, Tryd.ntmps89
      go_wp2_with (first | (go_at_call 36; refine (HL.out _).mono ?_; rintro e w1 ⟨rfl, hC⟩) | (go_at_call 103; refine (H6.out _ (HM.out.below hC)).mono ?_; rintro e w2 ⟨v, rfl, hv, hC2⟩; obtain ⟨ao, cap, rfl, hm1, c1⟩ := hv.form; have C1 := Lib.hid c1; clear c1 hv; have HW := Lib.hid (hC.trans (hC2.mono hC.size)); clear hC hC2))
      unfold maxLen at hm1
      go_loop [26] (fun i => ∃ k : Nat, k ≤ L.length ∧ i = .int .i64 k ∧ (L.take k).all label = true) (fun i => L.length - (intOf i).toNat)
      case atStart => exact ⟨0, Nat.zero_le _, rfl, rfl⟩
      case round =>
        obtain ⟨k, hk, rfl, hb⟩ := hrel
        have HB := Lib.hid hb; clear hb
        by_cases hlt : k < L.length
        · obtain ⟨b, off, rfl, hb1, hc1⟩ := C1.out (by omega)
          have x1 := hc1 k hlt
          have k0 : (0 : Int) ≤ (k : Int) := by omega
          have k1 : (k : Int) < (L.length : Int) := by omega
          clear hc1
          have HX := Lib.hid (fun h => HN.out.trans (labels_bad L k hlt h))
          have HY := Lib.hid (fun h => labels_next L k hlt h HB.out)
          have hps := HBD.out _ (List.getElem_mem hlt)
          obtain ⟨P, hP⟩ : ∃ P, P = bs L[k] := ⟨_, rfl⟩
          have hPu : L[k] = us P := by rw [hP]; simp
          rw [← hP] at x1
          rw [hPu] at HX HY hps
          rw [length_us] at hps
          clear hP hPu
          have HA := Lib.hid (fun wx => all_c P (by omega) 67 wx)
          rw [allc_67] at HA
          by_cases pz : P.size = 0
          · have HF := Lib.hid (HX.out (label_zero P pz))
            obtain rfl := eq_empty pz
            go_wp2
            all_goals
              go_ret
              exact ⟨ret_bool (by rw [HF.out]), HW.out⟩
          have pE := ne_empty pz
          have pF := isEmpty_f pz
          have p0 : 0 < P.size := by omega
          cases ha : allc 64 (us P) with
          | false =>
            have HF := Lib.hid (HX.out (label_all P ha))
            rw [ha] at HA; clear ha
            go_wp2_with (go_at_call 61; refine (HA.out _).mono ?_; rintro e w3 ⟨rfl, rfl⟩)
            go_ret
            exact ⟨ret_bool (by rw [HF.out]), HW.out⟩
          | true =>
            by_cases d0 : P[0].toNat = 45
            · have HF := Lib.hid (HX.out (label_head P p0 d0))
              have t2 : ((P[0].toNat : Int) == 45) = true := by simp [d0]
              rw [ha] at HA; clear ha d0
              go_wp2_with (go_at_call 61; refine (HA.out _).mono ?_; rintro e w3 ⟨rfl, rfl⟩)
              go_ret
              exact ⟨ret_bool (by rw [HF.out]), HW.out⟩
            have t2 : ((P[0].toNat : Int) == 45) = false := by simp; omega
            have q1 : P.size - 1 < P.size := by omega
            have q2 : (0 : Int) ≤ (P.size : Int) - 1 := by omega
            have q3 : ((P.size : Int) - 1).toNat = P.size - 1 := by omega
            by_cases d1 : P[P.size - 1].toNat = 45
            · have HF := Lib.hid (HX.out (label_last P p0 d1))
              have t3 : ((P[P.size - 1].toNat : Int) == 45) = true := by simp [d1]
              rw [ha] at HA; clear ha d0 d1
              go_wp2_with (go_at_call 61; refine (HA.out _).mono ?_; rintro e w3 ⟨rfl, rfl⟩)
              go_ret
              exact ⟨ret_bool (by rw [HF.out]), HW.out⟩
            · have t3 : ((P[P.size - 1].toNat : Int) == 45) = false := by simp; omega
              have HG := Lib.hid (HY.out (label_yes P p0 ha d0 d1))
              rw [ha] at HA; clear ha d0 d1
              go_wp2_with (go_at_call 61; refine (HA.out _).mono ?_; rintro e w3 ⟨rfl, rfl⟩)
              go_round
              case rel => exact ⟨k + 1, by omega, by go_num, HG.out⟩
              case measure => simp [intOf]; omega
        · have hE2 : L.take k = L := List.take_of_length_le (by omega)
          rw [hE2] at HB
          clear hE2
          go_wp2
          go_ret
          exact ⟨ret_bool (by rw [HN.out, HB.out]), HW.out⟩

end Go.Proofs.YteiafgoigfehgaaDoor
