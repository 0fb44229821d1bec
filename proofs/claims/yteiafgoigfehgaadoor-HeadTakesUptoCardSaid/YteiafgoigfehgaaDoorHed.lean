/-
  head.Time, head.Call, head.Cseq and the reference's.
  head.Call, head.Cseq and the reference's.
  head.Cseq and the reference's.
-/
import Derived.Test.YteiafgoigfehgaaDoorBase
import Derived.Test.YteiafgoigfehgaaDoorScS
namespace Go.Proofs.YteiafgoigfehgaaDoor

section
open Go.RowKit

/-- the seconds that a text tells -/
def timeS (l : List UInt8) : Int × Int := if (number (trim l) 2147483647).2 = 9 then (2147483647, 0) else number (trim l) 2147483647

theorem time_c (s : ByteArray) (hs : s.size ≤ 9223372036854775807) (w : World) :
    Calls Tryd.prog 16 #[.string s] w fun e w' => e = .returned (.tuple #[.int .i64 (timeS (us s)).1, .int .i64 (timeS (us s)).2]) ∧ w = w' := by
  have lt : (trim (us s)).length ≤ s.size := by rw [← length_us]; exact trim_le (us s)
  have H1 := Lib.hid (fun wx => trim_c s hs wx)
  have H2 := Lib.hid (fun wx => number_c (bs (trim (us s))) (by rw [size_bs]; omega) 2147483647 (by decide) (by decide) wx)
  rw [us_bs] at H2
  clear lt
  obtain ⟨p, hp⟩ : ∃ p, p = number (trim (us s)) 2147483647 := ⟨_, rfl⟩
  have HS := Lib.hid (show timeS (us s) = if p.2 = 9 then (2147483647, 0) else p by rw [hp]; rfl)
  rw [← hp] at H2
  clear hp
  obtain ⟨a, b⟩ := p
  cases h9 : (b == 9)
  all_goals
    go_enter Tryd.func16, Tryd.ntmps16
    go_wp2_with (first
      | (go_at_call 37; refine (H1.out _).mono ?_; rintro e wx ⟨rfl, rfl⟩)
      | (go_at_call 46; refine (H2.out _).mono ?_; rintro e wx ⟨rfl, rfl⟩))
    go_ret2
    have h9' := h9
    simp at h9'
    refine ⟨?_, rfl⟩
    rw [HS.out]
    simp [h9']
theorem timeR_c (s : ByteArray) (hs : s.size ≤ 9223372036854775807) (w : World) :
    Calls Tryd.prog 26 #[.string s] w fun e w' => e = .returned (.tuple #[.int .i64 (timeS (us s)).1, .int .i64 (timeS (us s)).2]) ∧ w = w' := by
  have lt : (trim (us s)).length ≤ s.size := by rw [← length_us]; exact trim_le (us s)
  have H1 := Lib.hid (fun wx => trimR_c s hs wx)
  have H2 := Lib.hid (fun wx => numberR_c (bs (trim (us s))) (by rw [size_bs]; omega) 2147483647 (by decide) (by decide) wx)
  rw [us_bs] at H2
  clear lt
  obtain ⟨p, hp⟩ : ∃ p, p = number (trim (us s)) 2147483647 := ⟨_, rfl⟩
  have HS := Lib.hid (show timeS (us s) = if p.2 = 9 then (2147483647, 0) else p by rw [hp]; rfl)
  rw [← hp] at H2
  clear hp
  obtain ⟨a, b⟩ := p
  cases h9 : (b == 9)
  all_goals
    go_enter Tryd.func26, Tryd.ntmps26
    go_wp2_with (first
      | (go_at_call 42; refine (H1.out _).mono ?_; rintro e wx ⟨rfl, rfl⟩)
      | (go_at_call 53; refine (H2.out _).mono ?_; rintro e wx ⟨rfl, rfl⟩))
    go_ret2
    have h9' := h9
    simp at h9'
    refine ⟨?_, rfl⟩
    rw [HS.out]
    simp [h9']

/-- may a text be a Call-ID? -/
def seen (c : UInt8) : Bool := decide (33 ≤ c.toNat) && decide (c.toNat ≤ 126)
def callS (l : List UInt8) : Bool := decide (1 ≤ l.length) && decide (l.length ≤ 128) && l.all seen

/-- a sequence number with a method -/
def cseqS (n : Int) (l : List UInt8) : List UInt8 × Int := if n < 0 ∨ 2147483647 < n ∨ token l = false then ([], 80) else (digits n ++ 32 :: l, 0)
end

section
open Go.RowKit

theorem seen_no (c : UInt8) (h : ((c.toNat : Int) ≤ 32) ∨ (127 ≤ (c.toNat : Int))) : seen c = false := by
  unfold seen; rw [Bool.and_eq_false_iff]; simp only [decide_eq_false_iff_not]; omega
theorem seen_yes (c : UInt8) (h1 : ¬ ((c.toNat : Int) ≤ 32)) (h2 : ¬ (127 ≤ (c.toNat : Int))) : seen c = true := by
  unfold seen; rw [Bool.and_eq_true]; simp only [decide_eq_true_eq]; omega
theorem all_found (s : ByteArray) (k : Nat) (h : k < s.size) (hs : seen s[k] = false) : (us s).all seen = false := by
  rw [← Bool.not_eq_true, List.all_eq_true]
  intro hall
  have := hall s[k] (by have := get_us s k h; exact List.mem_of_getElem? this)
  rw [hs] at this; cases this
theorem all_take (s : ByteArray) (k : Nat) (h : k < s.size) (hs : seen s[k] = true) (hp : ((us s).take k).all seen = true) : ((us s).take (k + 1)).all seen = true := by
  rw [take_us s k h, List.all_append, hp]; simp [hs]
theorem callS_no (l : List UInt8) (h : l.length = 0 ∨ 128 < l.length ∨ l.all seen = false) : callS l = false := by
  unfold callS
  rcases h with h | h | h
  · rw [h]; rfl
  · rw [show decide (l.length ≤ 128) = false from decide_eq_false (by omega)]; simp
  · rw [h]; simp
theorem callS_yes (l : List UInt8) (h1 : 1 ≤ l.length) (h2 : l.length ≤ 128) (h3 : l.all seen = true) : callS l = true := by
  unfold callS; rw [h3]; simp [h1, h2]

theorem call_c (s : ByteArray) (hs : s.size ≤ 9223372036854775807) (w : World) :
    Calls Tryd.prog 27 #[.string s] w fun e w' => e = .returned (.bool (callS (us s))) ∧ w = w' := by
  by_cases hz : s.size = 0
  · obtain rfl := eq_empty hz
    go_enter Tryd.func27, Tryd.ntmps27
    go_wp2
    all_goals
      go_ret
      exact ⟨ret_bool (by rfl), rfl⟩
  by_cases hl : 128 < s.size
  · have hE := ne_empty hz
    have hF := isEmpty_f hz
    have HN := Lib.hid (callS_no (us s) (.inr (.inl (by rw [length_us]; exact hl))))
    go_enter Tryd.func27, Tryd.ntmps27
    go_wp2
    all_goals
      go_ret
      exact ⟨ret_bool (by rw [HN.out]), rfl⟩
  have hE := ne_empty hz
  have hF := isEmpty_f hz
  go_enter Tryd.func27, Tryd.ntmps27
  go_wp2
  go_loop [13] (fun i => ∃ k : Nat, k ≤ s.size ∧ i = .int .i64 k ∧ ((us s).take k).all seen = true) (fun i => s.size - (intOf i).toNat)
  case atStart => exact ⟨0, Nat.zero_le _, rfl, rfl⟩
  case round =>
    obtain ⟨k, hk, rfl, hb⟩ := hrel
    have HB := Lib.hid hb; clear hb
    by_cases hlt : k < s.size
    · have hf := Lib.hid (fun h => callS_no (us s) (.inr (.inr (all_found s k hlt h))))
      have ht := Lib.hid (fun h => all_take s k hlt h HB.out)
      by_cases c1 : ((s[k].toNat : Int) ≤ 32)
      · have HN := Lib.hid (hf.out (seen_no _ (.inl c1)))
        go_wp2
        all_goals
          go_ret
          exact ⟨ret_bool (by rw [HN.out]), rfl⟩
      · by_cases c2 : (127 ≤ (s[k].toNat : Int))
        · have HN := Lib.hid (hf.out (seen_no _ (.inr c2)))
          go_wp2
          all_goals
            go_ret
            exact ⟨ret_bool (by rw [HN.out]), rfl⟩
        · have HN := Lib.hid (ht.out (seen_yes _ c1 c2))
          go_wp2
          go_round
          case rel => exact ⟨k + 1, by omega, by go_num, HN.out⟩
          case measure => simp [intOf]; omega
    · have HY := Lib.hid (callS_yes (us s) (by rw [length_us]; omega) (by rw [length_us]; omega) (by rw [← take_all s k (by omega)]; exact HB.out))
      go_wp2
      all_goals
        go_ret
        exact ⟨ret_bool (by rw [HY.out]), rfl⟩

theorem callR_c (s : ByteArray) (hs : s.size ≤ 9223372036854775807) (w : World) :
    Calls Tryd.prog 28 #[.string s] w fun e w' => e = .returned (.bool (callS (us s))) ∧ w = w' := by
  go_enter Tryd.func28, Tryd.ntmps28
  go_wp2
  go_loop [3] (fun i => ∃ k : Nat, k ≤ s.size ∧ i = .int .i64 k ∧ ((us s).take k).all seen = true) (fun i => s.size - (intOf i).toNat)
  case atStart => exact ⟨0, Nat.zero_le _, rfl, rfl⟩
  case round =>
    obtain ⟨k, hk, rfl, hb⟩ := hrel
    have HB := Lib.hid hb; clear hb
    by_cases hlt : k < s.size
    · have hf := Lib.hid (fun h => callS_no (us s) (.inr (.inr (all_found s k hlt h))))
      have ht := Lib.hid (fun h => all_take s k hlt h HB.out)
      by_cases c1 : ((s[k].toNat : Int) < 33)
      · have HN := Lib.hid (hf.out (seen_no _ (.inl (by omega))))
        go_wp2
        all_goals
          go_ret
          exact ⟨ret_bool (by rw [HN.out]), rfl⟩
      · by_cases c2 : (126 < (s[k].toNat : Int))
        · have HN := Lib.hid (hf.out (seen_no _ (.inr (by omega))))
          go_wp2
          all_goals
            go_ret
            exact ⟨ret_bool (by rw [HN.out]), rfl⟩
        · have HN := Lib.hid (ht.out (seen_yes _ (by omega) (by omega)))
          go_wp2
          go_round
          case rel => exact ⟨k + 1, by omega, by go_num, HN.out⟩
          case measure => simp [intOf]; omega
    · have HA := Lib.hid (show (us s).all seen = true by rw [← take_all s k (by omega)]; exact HB.out)
      by_cases h1 : 1 ≤ s.size <;> by_cases h2 : s.size ≤ 128
      · have HY := Lib.hid (callS_yes (us s) (by rw [length_us]; omega) (by rw [length_us]; omega) HA.out)
        go_wp2
        all_goals
          go_ret
          exact ⟨ret_bool (by rw [HY.out]; try (first | (simp; omega) | simp)), rfl⟩
      all_goals
        have HN := Lib.hid (callS_no (us s) (by rw [length_us]; omega))
        go_wp2
        all_goals
          go_ret
          exact ⟨ret_bool (by rw [HN.out]; try (first | (simp; omega) | simp)), rfl⟩
end

section
open Go.RowKit

theorem cseqS_no (n : Int) (l : List UInt8) (h : n < 0 ∨ 2147483647 < n ∨ token l = false) : cseqS n l = ([], 80) := by
  unfold cseqS; rw [if_pos h]
theorem cseqS_yes (n : Int) (l : List UInt8) (h1 : ¬ n < 0) (h2 : ¬ 2147483647 < n) (h3 : token l = true) : cseqS n l = (digits n ++ 32 :: l, 0) := by
  unfold cseqS; rw [if_neg]; rintro (h | h | h)
  · exact h1 h
  · exact h2 h
  · rw [h3] at h; cases h
theorem ret_sp {s : ByteArray} {n : Int} {p : List UInt8 × Int} (h : p = (us s, n)) : Ending.returned (.tuple #[.string s, .int .i64 n]) = .returned (.tuple #[.string (bs p.1), .int .i64 p.2]) := by
  rw [h]; simp

set_option maxHeartbeats 1600000 in
theorem cseq_c (n : Int) (n0 : -9223372036854775808 ≤ n) (n1 : n ≤ 9223372036854775807) (s : ByteArray) (hs : s.size ≤ 140737488351232) (w : World) :
    Calls Tryd.prog 24 #[.int .i64 n, .string s] w fun e w' => e = .returned (.tuple #[.string (bs (cseqS n (us s)).1), .int .i64 (cseqS n (us s)).2]) ∧ Below w.heap.size w w' := by
  have H1 := Lib.hid (fun wx => token_c s (by omega) wx)
  have H2 := Lib.hid (fun wx => digits_c n n0 n1 wx)
  have ld : (bs (digits n)).size ≤ 20 := by rw [size_bs]; exact digits_len n
  have HN := Lib.hid (cseqS_no n (us s))
  have HY := Lib.hid (cseqS_yes n (us s))
  have HL := Lib.hid (us_bs (digits n))
  obtain ⟨d, hd⟩ : ∃ d, d = bs (digits n) := ⟨_, rfl⟩
  rw [← hd] at H2 ld HL
  clear hd
  have hB : Below w.heap.size w w := Below.refl _ w
  have hcase : n < 0 ∨ (¬ n < 0 ∧ 2147483647 < n) ∨ (¬ n < 0 ∧ ¬ 2147483647 < n) := by omega
  have h20 : (⟨#[32]⟩ : ByteArray).size = 1 := rfl
  rcases hcase with h1 | ⟨h1, h2⟩ | ⟨h1, h2⟩
  · have HX := Lib.hid (HN.out (.inl h1))
    go_enter Tryd.func24, Tryd.ntmps24
    go_wp2_with fail
    go_ret2
    exact ⟨ret_sp (by rw [HX.out]; rfl), hB⟩
  · have HX := Lib.hid (HN.out (.inr (.inl h2)))
    go_enter Tryd.func24, Tryd.ntmps24
    go_wp2_with fail
    go_ret2
    exact ⟨ret_sp (by rw [HX.out]; rfl), hB⟩
  · cases ht : token (us s)
    · have HX := Lib.hid (HN.out (.inr (.inr ht)))
      rw [ht] at H1; clear ht
      go_enter Tryd.func24, Tryd.ntmps24
      go_wp2_with (go_at_call 40; refine (H1.out _).mono ?_; rintro e wx ⟨rfl, rfl⟩)
      go_ret2
      exact ⟨ret_sp (by rw [HX.out]; rfl), hB⟩
    · have HX := Lib.hid (HY.out h1 h2 ht)
      rw [ht] at H1; clear ht
      go_enter Tryd.func24, Tryd.ntmps24
      go_wp2_with (first | (go_at_call 40; refine (H1.out _).mono ?_; rintro e wx ⟨rfl, rfl⟩) | (go_at_call 17; refine (H2.out _).mono ?_; rintro e wx ⟨rfl, hC⟩; replace hB := hB.trans (hC.mono hB.size)))
      go_ret2
      exact ⟨ret_sp (by rw [HX.out, us_append, us_append, HL.out]; simp [us]), hB⟩

set_option maxHeartbeats 1600000 in
theorem cseqR_c (n : Int) (n0 : -9223372036854775808 ≤ n) (n1 : n ≤ 9223372036854775807) (s : ByteArray) (hs : s.size ≤ 140737488351232) (w : World) :
    Calls Tryd.prog 25 #[.int .i64 n, .string s] w fun e w' => e = .returned (.tuple #[.string (bs (cseqS n (us s)).1), .int .i64 (cseqS n (us s)).2]) ∧ Below w.heap.size w w' := by
  have H1 := Lib.hid (fun wx => tokenR_c s (by omega) wx)
  have H2 := Lib.hid (fun wx => digitsR_c n n0 n1 wx)
  have ld : (bs (digits n)).size ≤ 20 := by rw [size_bs]; exact digits_len n
  have HN := Lib.hid (cseqS_no n (us s))
  have HY := Lib.hid (cseqS_yes n (us s))
  have HL := Lib.hid (us_bs (digits n))
  obtain ⟨d, hd⟩ : ∃ d, d = bs (digits n) := ⟨_, rfl⟩
  rw [← hd] at H2 ld HL
  clear hd
  have hB : Below w.heap.size w w := Below.refl _ w
  have hcase : n < 0 ∨ (¬ n < 0 ∧ 2147483647 < n) ∨ (¬ n < 0 ∧ ¬ 2147483647 < n) := by omega
  have h20 : (⟨#[32]⟩ : ByteArray).size = 1 := rfl
  rcases hcase with h1 | ⟨h1, h2⟩ | ⟨h1, h2⟩
  · have HX := Lib.hid (HN.out (.inl h1))
    go_enter Tryd.func25, Tryd.ntmps25
    go_wp2_with fail
    go_ret2
    exact ⟨ret_sp (by rw [HX.out]; rfl), hB⟩
  · have HX := Lib.hid (HN.out (.inr (.inl h2)))
    go_enter Tryd.func25, Tryd.ntmps25
    go_wp2_with fail
    go_ret2
    exact ⟨ret_sp (by rw [HX.out]; rfl), hB⟩
  · cases ht : token (us s)
    · have HX := Lib.hid (HN.out (.inr (.inr ht)))
      rw [ht] at H1; clear ht
      go_enter Tryd.func25, Tryd.ntmps25
      go_wp2_with (go_at_call 45; refine (H1.out _).mono ?_; rintro e wx ⟨rfl, rfl⟩)
      go_ret2
      exact ⟨ret_sp (by rw [HX.out]; rfl), hB⟩
    · have HX := Lib.hid (HY.out h1 h2 ht)
      rw [ht] at H1; clear ht
      go_enter Tryd.func25, Tryd.ntmps25
      go_wp2_with (first | (go_at_call 45; refine (H1.out _).mono ?_; rintro e wx ⟨rfl, rfl⟩) | (go_at_call 50; refine (H2.out _).mono ?_; rintro e wx ⟨rfl, hD⟩; replace hB := hB.trans (hD.below (B := w.heap.size))))
      go_ret2
      exact ⟨ret_sp (by rw [HX.out, us_append, us_append, HL.out]; simp [us]), hB⟩
end

end Go.Proofs.YteiafgoigfehgaaDoor
