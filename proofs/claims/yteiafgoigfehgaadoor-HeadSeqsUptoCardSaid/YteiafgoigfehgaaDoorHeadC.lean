/-
  head.Cseq and the reference's.
-/
import Derived.Test.YteiafgoigfehgaaDoorHeadB
namespace Go.Proofs.YteiafgoigfehgaaDoor
open Go.RowKit

theorem cseqS_no (n : Int) (l : List UInt8) (h : n < 0 ∨ 2147483647 < n ∨ token l = false) : cseqS n l = ([], 80) := by
  unfold cseqS; rw [if_pos h]
theorem cseqS_yes (n : Int) (l : List UInt8) (h1 : ¬ n < 0) (h2 : ¬ 2147483647 < n) (h3 : token l = true) : cseqS n l = (digits n ++ 32 :: l, 0) := by
  unfold cseqS; rw [if_neg]; rintro (h | h | h)
  · exact h1 h
  · exact h2 h
  · rw [h3] at h; cases h
theorem ret_sp {s : ByteArray} {n : Int} {p : List UInt8 × Int} (h : p = (us s, n)) : Ending.returned (.tuple #[.string s, .int .i64 n]) = .returned (.tuple #[.string (bs p.1), .int .i64 p.2]) := by
  rw [h]; simp

set_option maxHeartbeats 1600000 in
theorem cseq_c (n : Int) (n0 : -9223372036854775808 ≤ n) (n1 : n ≤ 9223372036854775807) (s : ByteArray) (hs : s.size ≤ 140737488351232) (w : World) :
    Calls Tryd.prog 24 #[.int .i64 n, .string s] w fun e w' => e = .returned (.tuple #[.string (bs (cseqS n (us s)).1), .int .i64 (cseqS n (us s)).2]) ∧ Below w.heap.size w w' := by
  have H1 := Lib.hid (fun wx => token_c s (by omega) wx)
  have H2 := Lib.hid (fun wx => digits_c n n0 n1 wx)
  have ld : (bs (digits n)).size ≤ 20 := by rw [size_bs]; exact digits_len n
  have HN := Lib.hid (cseqS_no n (us s))
  have HY := Lib.hid (cseqS_yes n (us s))
  have HL := Lib.hid (us_bs (digits n))
  obtain ⟨d, hd⟩ : ∃ d, d = bs (digits n) := ⟨_, rfl⟩
  rw [← hd] at H2 ld HL
  clear hd
  have hB : Below w.heap.size w w := Below.refl _ w
  have hcase : n < 0 ∨ (¬ n < 0 ∧ 2147483647 < n) ∨ (¬ n < 0 ∧ ¬ 2147483647 < n) := by omega
  have h20 : (⟨#[32]⟩ : ByteArray).size = 1 := rfl
  rcases hcase with h1 | ⟨h1, h2⟩ | ⟨h1, h2⟩
  · have HX := Lib.hid (HN.out (.inl h1))
    go_enter Tryd.func24, Tryd.ntmps24
    go_wp2_with fail
    go_ret2
    exact ⟨ret_sp (by rw [HX.out]; rfl), hB⟩
  · have HX := Lib.hid (HN.out (.inr (.inl h2)))
    go_enter Tryd.func24, Tryd.ntmps24
    go_wp2_with fail
    go_ret2
    exact ⟨ret_sp (by rw [HX.out]; rfl), hB⟩
  · cases ht : token (us s)
    · have HX := Lib.hid (HN.out (.inr (.inr ht)))
      rw [ht] at H1; clear ht
      go_enter Tryd.func24, Tryd.ntmps24
      go_wp2_with (go_at_call 40; refine (H1.out _).mono ?_; rintro e wx ⟨rfl, rfl⟩)
      go_ret2
      exact ⟨ret_sp (by rw [HX.out]; rfl), hB⟩
    · have HX := Lib.hid (HY.out h1 h2 ht)
      rw [ht] at H1; clear ht
      go_enter Tryd.func24, Tryd.ntmps24
      go_wp2_with (first | (go_at_call 40; refine (H1.out _).mono ?_; rintro e wx ⟨rfl, rfl⟩) | (go_at_call 17; refine (H2.out _).mono ?_; rintro e wx ⟨rfl, hC⟩; replace hB := hB.trans (hC.mono hB.size)))
      go_ret2
      exact ⟨ret_sp (by rw [HX.out, us_append, us_append, HL.out]; simp [us]), hB⟩

set_option maxHeartbeats 1600000 in
theorem cseqR_c (n : Int) (n0 : -9223372036854775808 ≤ n) (n1 : n ≤ 9223372036854775807) (s : ByteArray) (hs : s.size ≤ 140737488351232) (w : World) :
    Calls Tryd.prog 25 #[.int .i64 n, .string s] w fun e w' => e = .returned (.tuple #[.string (bs (cseqS n (us s)).1), .int .i64 (cseqS n (us s)).2]) ∧ Below w.heap.size w w' := by
  have H1 := Lib.hid (fun wx => tokenR_c s (by omega) wx)
  have H2 := Lib.hid (fun wx => digitsR_c n n0 n1 wx)
  have ld : (bs (digits n)).size ≤ 20 := by rw [size_bs]; exact digits_len n
  have HN := Lib.hid (cseqS_no n (us s))
  have HY := Lib.hid (cseqS_yes n (us s))
  have HL := Lib.hid (us_bs (digits n))
  obtain ⟨d, hd⟩ : ∃ d, d = bs (digits n) := ⟨_, rfl⟩
  rw [← hd] at H2 ld HL
  clear hd
  have hB : Below w.heap.size w w := Below.refl _ w
  have hcase : n < 0 ∨ (¬ n < 0 ∧ 2147483647 < n) ∨ (¬ n < 0 ∧ ¬ 2147483647 < n) := by omega
  have h20 : (⟨#[32]⟩ : ByteArray).size = 1 := rfl
  rcases hcase with h1 | ⟨h1, h2⟩ | ⟨h1, h2⟩
  · have HX := Lib.hid (HN.out (.inl h1))
    go_enter Tryd.func25, Tryd.ntmps25
    go_wp2_with fail
    go_ret2
    exact ⟨ret_sp (by rw [HX.out]; rfl), hB⟩
  · have HX := Lib.hid (HN.out (.inr (.inl h2)))
    go_enter Tryd.func25, Tryd.ntmps25
    go_wp2_with fail
    go_ret2
    exact ⟨ret_sp (by rw [HX.out]; rfl), hB⟩
  · cases ht : token (us s)
    · have HX := Lib.hid (HN.out (.inr (.inr ht)))
      rw [ht] at H1; clear ht
      go_enter Tryd.func25, Tryd.ntmps25
      go_wp2_with (go_at_call 45; refine (H1.out _).mono ?_; rintro e wx ⟨rfl, rfl⟩)
      go_ret2
      exact ⟨ret_sp (by rw [HX.out]; rfl), hB⟩
    · have HX := Lib.hid (HY.out h1 h2 ht)
      rw [ht] at H1; clear ht
      go_enter Tryd.func25, Tryd.ntmps25
      go_wp2_with (first | (go_at_call 45; refine (H1.out _).mono ?_; rintro e wx ⟨rfl, rfl⟩) | (go_at_call 50; refine (H2.out _).mono ?_; rintro e wx ⟨rfl, hD⟩; replace hB := hB.trans (hD.below (B := w.heap.size))))
      go_ret2
      exact ⟨ret_sp (by rw [HX.out, us_append, us_append, HL.out]; simp [us]), hB⟩

end Go.Proofs.YteiafgoigfehgaaDoor
