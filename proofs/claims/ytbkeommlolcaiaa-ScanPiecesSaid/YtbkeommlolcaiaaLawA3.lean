/-
  The statements ScanQuotes, ScanEscapes, ScanBack, ScanJoined: what the Go functions answer, for texts of at most 1048576 bytes.
-/
import Derived.Test.YtbkeommlolcaiaaAwakeA
import Derived.Test.YtbkeommlolcaiaaPureA
namespace Go.Proofs.Ytbkeommlolcaiaa
open Go.RowKit

theorem bel0 (w : World) : Below w.heap.size w w := ⟨rfl, rfl, rfl, Nat.le_refl _, fun _ _ => rfl⟩
theorem quote_len (s : ByteArray) : (quote (us s)).1.length ≤ 2 * s.size + 2 := by
  unfold quote
  split
  · simp
  · have := flat_len (us s) qbyte 2 qbyte_len
    rw [length_us] at this
    simp only [List.length_cons, List.length_append, List.length_nil]; omega
theorem escape_len (s : ByteArray) (keep : List UInt8) : (escape (us s) keep).length ≤ 3 * s.size := by
  have := flat_len (us s) (ebyte keep) 3 (ebyte_len keep)
  rw [length_us] at this; exact this
theorem quote_code (l : List UInt8) : (quote l).2 = 0 ∨ (quote l).2 = 11 := by
  unfold quote; split <;> simp

set_option maxHeartbeats 1600000 in
theorem quotes_law (s : ByteArray) (hs : s.size ≤ 1048576) (w : World) :
    Calls Try.prog 6 #[.string s] w fun e w' => e = .returned (.bool true) ∧ Below w.heap.size w w' := by
  have H1 := Lib.hid (fun wx => quote_c s (by omega) wx)
  have H2 := Lib.hid (fun wx => quoteR_c s (by omega) wx)
  have H3 := Lib.hid (fun wx => unquote_c s (by omega) wx)
  have H4 := Lib.hid (fun wx => unquoteR_c s (by omega) wx)
  obtain ⟨p, hp⟩ : ∃ p, p = quote (us s) := ⟨_, rfl⟩
  obtain ⟨q, hq⟩ : ∃ q, q = unquote (us s) := ⟨_, rfl⟩
  rw [← hp] at H1 H2
  rw [← hq] at H3 H4
  clear hp hq
  have hB := bel0 w
  go_enter Try.func6, Try.ntmps6
  go_wp2_with fail
  refine (H1.out _).mono ?_
  rintro e w1 ⟨rfl, hC⟩
  replace hB := hB.trans (hC.mono hB.size)
  go_wp2_with fail
  refine (H2.out _).mono ?_
  rintro e w2 ⟨rfl, hC⟩
  replace hB := hB.trans (hC.mono hB.size)
  go_wp2_with fail
  refine (H3.out _).mono ?_
  rintro e w3 ⟨rfl, hC⟩
  replace hB := hB.trans (hC.mono hB.size)
  go_wp2_with fail
  refine (H4.out _).mono ?_
  rintro e w4 ⟨rfl, hC⟩
  replace hB := hB.trans (hC.mono hB.size)
  go_wp2_with fail
  refine (awake_c _).mono ?_
  rintro e w5 ⟨rfl, hC⟩
  replace hB := hB.trans (hC.mono hB.size)
  go_wp2_with fail
  all_goals
    go_ret
    exact ⟨by simp, hB⟩

set_option maxHeartbeats 1600000 in
theorem escapes_law (s : ByteArray) (hs : s.size ≤ 1048576) (t : ByteArray) (ht : t.size ≤ 1048576) (w : World) :
    Calls Try.prog 9 #[.string s, .string t] w fun e w' => e = .returned (.bool true) ∧ Below w.heap.size w w' := by
  have H1 := Lib.hid (fun wx => unescape_c s (by omega) wx)
  have H2 := Lib.hid (fun wx => unescapeR_c s (by omega) wx)
  have H3 := Lib.hid (fun wx => escape_c s t (by omega) (by omega) wx)
  have H4 := Lib.hid (fun wx => escapeR_c s t (by omega) (by omega) wx)
  obtain ⟨p, hp⟩ : ∃ p, p = unescape (us s) := ⟨_, rfl⟩
  obtain ⟨q, hq⟩ : ∃ q, q = escape (us s) (us t) := ⟨_, rfl⟩
  rw [← hp] at H1 H2
  rw [← hq] at H3 H4
  clear hp hq
  have hB := bel0 w
  by_cases h : 200 < t.size
  · go_enter Try.func9, Try.ntmps9
    go_wp2_with fail
    refine (awake_c _).mono ?_
    rintro e w5 ⟨rfl, hC⟩
    replace hB := hB.trans (hC.mono hB.size)
    go_wp2_with fail
    all_goals
      go_ret
      exact ⟨by simp, hB⟩
  · go_enter Try.func9, Try.ntmps9
    go_wp2_with fail
    refine (H1.out _).mono ?_
    rintro e w1 ⟨rfl, hC⟩
    replace hB := hB.trans (hC.mono hB.size)
    go_wp2_with fail
    refine (H2.out _).mono ?_
    rintro e w2 ⟨rfl, hC⟩
    replace hB := hB.trans (hC.mono hB.size)
    go_wp2_with fail
    refine (H3.out _).mono ?_
    rintro e w3 ⟨rfl, hC⟩
    replace hB := hB.trans (hC.mono hB.size)
    go_wp2_with fail
    refine (H4.out _).mono ?_
    rintro e w4 ⟨rfl, hC⟩
    replace hB := hB.trans (hC.mono hB.size)
    go_wp2_with fail
    refine (awake_c _).mono ?_
    rintro e w5 ⟨rfl, hC⟩
    replace hB := hB.trans (hC.mono hB.size)
    go_wp2_with fail
    all_goals
      go_ret
      exact ⟨by simp, hB⟩

set_option maxHeartbeats 1600000 in
/-- the first half: what is quoted is unquoted; the rest of the walk is the given part K -/
theorem back_law (s : ByteArray) (hs : s.size ≤ 1048576) (t : ByteArray) (ht : t.size ≤ 1048576) (n : Int) (n0 : -9223372036854775808 ≤ n) (n1 : n ≤ 9223372036854775807) (w : World) :
    Calls Try.prog 10 #[.string s, .string t, .int .i64 n] w fun e w' => e = .returned (.bool true) ∧ Below w.heap.size w w' := by
  have lq := quote_len s
  have le := escape_len s (us t)
  have H1 := Lib.hid (fun wx => quote_c s (by omega) wx)
  have H2 := Lib.hid (fun wx => unquote_c (bs (quote (us s)).1) (by rw [size_bs]; omega) wx)
  have H3 := Lib.hid (fun wx => escape_c s t (by omega) (by omega) wx)
  have H4 := Lib.hid (fun wx => unescape_c (bs (escape (us s) (us t))) (by rw [size_bs]; omega) wx)
  have H5 := Lib.hid (fun wx => digits_c n n0 n1 wx)
  have H6 := Lib.hid (fun wx => number_c (bs (digits n)) (by rw [size_bs]; have := digits_len n; omega) n n0 n1 wx)
  rw [us_bs] at H2 H4 H6
  rw [unescape_escape] at H4
  have hQ := unquote_quote (us s)
  have hN := fun h => number_digits n h n1
  have hc := quote_code (us s)
  clear lq le
  obtain ⟨e1, he1⟩ : ∃ e1, e1 = escape (us s) (us t) := ⟨_, rfl⟩
  obtain ⟨q1, q2, hq1⟩ : ∃ q1 q2, quote (us s) = (q1, q2) := ⟨_, _, rfl⟩
  obtain ⟨d1, hd1⟩ : ∃ d1, d1 = digits n := ⟨_, rfl⟩
  rw [← he1] at H3 H4
  rw [hq1] at H1 H2 hQ hc
  rw [← hd1] at H5 H6 hN
  clear he1 hq1 hd1
  have hB := bel0 w
  rcases hc with hc | hc <;> by_cases hn : 0 ≤ n
  all_goals
    try rw [hQ hc] at H2
    try rw [hN hn] at H6
    clear hQ hN
    simp only at hc
    subst hc
    simp only [bs_us] at H2 H4
    go_enter Try.func10, Try.ntmps10
    go_wp2_with (first
      | (go_at_call 19; refine (H1.out _).mono ?_; rintro e wx ⟨rfl, hC⟩; replace hB := hB.trans (hC.mono hB.size); clear hC)
      | (go_at_call 21; refine (H2.out _).mono ?_; rintro e wx ⟨rfl, hC⟩; replace hB := hB.trans (hC.mono hB.size); clear hC)
      | (go_at_call 33; refine (H3.out _).mono ?_; rintro e wx ⟨rfl, hC⟩; replace hB := hB.trans (hC.mono hB.size); clear hC)
      | (go_at_call 31; refine (H4.out _).mono ?_; rintro e wx ⟨rfl, hC⟩; replace hB := hB.trans (hC.mono hB.size); clear hC)
      | (go_at_call 17; refine (H5.out _).mono ?_; rintro e wx ⟨rfl, hC⟩; replace hB := hB.trans (hC.mono hB.size); clear hC)
      | (go_at_call 15; refine (H6.out _).mono ?_; rintro e wx ⟨rfl, rfl⟩)
      | (go_at_call 13; refine (awake_c _).mono ?_; rintro e wx ⟨rfl, hC⟩; replace hB := hB.trans (hC.mono hB.size); clear hC))
    all_goals
      go_ret
      exact ⟨by simp, hB⟩

end Go.Proofs.Ytbkeommlolcaiaa
