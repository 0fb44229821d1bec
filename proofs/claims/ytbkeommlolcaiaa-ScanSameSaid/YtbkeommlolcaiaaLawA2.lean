/-
  The statements ScanTexts, ScanSame: what the Go functions answer.
-/
import Derived.Test.YtbkeommlolcaiaaAwakeA
namespace Go.Proofs.Ytbkeommlolcaiaa
open Go.RowKit

theorem lowr_lowr (l : List UInt8) : lowr (lowr l) = lowr l := by
  have h : ∀ c : UInt8, low (low c) = low c := all_bytes (fun c => low (low c) = low c) (by decide +kernel)
  simp [lowr, h]

set_option maxHeartbeats 1600000 in
theorem texts_law (s : ByteArray) (hs : s.size ≤ 140737488351232) (w : World) :
    Calls Try.prog 7 #[.string s] w fun e w' => e = .returned (.bool true) ∧ Below w.heap.size w w' := by
  have H1 := Lib.hid (fun wx => token_c s (by omega) wx)
  have H2 := Lib.hid (fun wx => tokenR_c s (by omega) wx)
  have H3 := Lib.hid (fun wx => lowerP_c s (by omega) wx)
  have H4 := Lib.hid (fun wx => lowerR_c s (by omega) wx)
  have H5 := Lib.hid (fun wx => trim_c s (by omega) wx)
  have H6 := Lib.hid (fun wx => trimR_c s (by omega) wx)
  obtain ⟨b, hb⟩ : ∃ b, b = token (us s) := ⟨_, rfl⟩
  obtain ⟨l, hl⟩ : ∃ l, l = lowr (us s) := ⟨_, rfl⟩
  obtain ⟨t, ht⟩ : ∃ t, t = trim (us s) := ⟨_, rfl⟩
  rw [← hb] at H1 H2
  rw [← hl] at H3 H4
  rw [← ht] at H5 H6
  clear hb hl ht
  go_enter Try.func7, Try.ntmps7
  go_wp2_with fail
  refine (H1.out _).mono ?_
  rintro e w' ⟨rfl, rfl⟩
  go_wp2_with fail
  refine (H2.out _).mono ?_
  rintro e w' ⟨rfl, rfl⟩
  go_wp2_with fail
  refine (H3.out _).mono ?_
  rintro e w1 ⟨rfl, hB1⟩
  go_wp2_with fail
  refine (H4.out _).mono ?_
  rintro e w2 ⟨rfl, hB2⟩
  go_wp2_with fail
  refine (H5.out _).mono ?_
  rintro e w' ⟨rfl, rfl⟩
  go_wp2_with fail
  refine (H6.out _).mono ?_
  rintro e w' ⟨rfl, rfl⟩
  go_wp2_with fail
  refine (awake_c _).mono ?_
  rintro e w3 ⟨rfl, hB3⟩
  go_wp2_with fail
  all_goals
    go_ret
    exact ⟨by simp, hB1.trans ((hB2.mono hB1.size).trans (hB3.mono (Nat.le_trans hB1.size hB2.size)))⟩

theorem same_comm (a b : List UInt8) : same b a = same a b := by
  unfold same; rw [Bool.eq_iff_iff, beq_iff_eq, beq_iff_eq]; exact eq_comm
theorem same_refl (a : List UInt8) : same a a = true := by unfold same; simp
theorem same_lowr (a : List UInt8) : same a (lowr a) = true := by unfold same; rw [lowr_lowr]; simp
theorem same_trans (a b c : List UInt8) (h1 : same a b = true) (h2 : same b c = true) : same a c = true := by
  unfold same at *; rw [beq_iff_eq] at *; rw [h1, h2]

set_option maxHeartbeats 3200000 in
theorem same_law (s : ByteArray) (hs : s.size ≤ 140737488351232) (t : ByteArray) (ht : t.size ≤ 140737488351232) (u : ByteArray) (hu : u.size ≤ 140737488351232) (w : World) :
    Calls Try.prog 8 #[.string s, .string t, .string u] w fun e w' => e = .returned (.bool true) ∧ Below w.heap.size w w' := by
  have H1 := Lib.hid (fun wx => same_c s t (by omega) (by omega) wx)
  have H2 := Lib.hid (fun wx => same_c t u (by omega) (by omega) wx)
  have H3 := Lib.hid (fun wx => same_c s u (by omega) (by omega) wx)
  have H4 := Lib.hid (fun wx => sameR_c s t (by omega) (by omega) wx)
  have H5 := Lib.hid (fun wx => same_c t s (by omega) (by omega) wx)
  have H6 := Lib.hid (fun wx => same_c s s (by omega) (by omega) wx)
  have H7 := Lib.hid (fun wx => lowerP_c s (by omega) wx)
  have H8 := Lib.hid (fun wx => same_c s (bs (lowr (us s))) (by omega) (by rw [size_bs, lowr_len, length_us]; omega) wx)
  have e5 := same_comm (us s) (us t)
  have e6 := same_refl (us s)
  have e8 := same_lowr (us s)
  rw [us_bs, e8] at H8
  rw [e6] at H6
  rw [e5] at H5
  have HT := Lib.hid (same_trans (us s) (us t) (us u))
  clear e5 e6 e8
  cases h1 : same (us s) (us t) <;> cases h2 : same (us t) (us u) <;> cases h3 : same (us s) (us u)
  case true.true.false => exact absurd (HT.out h1 h2) (by rw [h3]; decide)
  all_goals
    rw [h1] at H1 H4 H5
    rw [h2] at H2
    rw [h3] at H3
    clear h1 h2 h3 HT
    go_enter Try.func8, Try.ntmps8
    go_wp2_with fail
    refine (H1.out _).mono ?_
    rintro e w1 ⟨rfl, hD1⟩
    go_wp2_with fail
    refine (H2.out _).mono ?_
    rintro e w2 ⟨rfl, hD2⟩
    go_wp2_with fail
    refine (H3.out _).mono ?_
    rintro e w3 ⟨rfl, hD3⟩
    go_wp2_with fail
    refine (H4.out _).mono ?_
    rintro e w4 ⟨rfl, hB4⟩
    go_wp2_with fail
    refine (H5.out _).mono ?_
    rintro e w5 ⟨rfl, hD5⟩
    go_wp2_with fail
    refine (H6.out _).mono ?_
    rintro e w6 ⟨rfl, hD6⟩
    go_wp2_with fail
    refine (H7.out _).mono ?_
    rintro e w7 ⟨rfl, hB7⟩
    go_wp2_with fail
    refine (H8.out _).mono ?_
    rintro e w8 ⟨rfl, hD8⟩
    go_wp2_with fail
    refine (awake_c _).mono ?_
    rintro e w9 ⟨rfl, hB9⟩
    go_wp2_with fail
    all_goals
      go_ret
      refine ⟨by simp, ?_⟩
      have b1 : Below w.heap.size w w3 := (hD1.trans (hD2.trans hD3)).below
      have b2 : Below w.heap.size w w4 := b1.trans (hB4.mono b1.size)
      have b3 : Below w.heap.size w w6 := b2.trans (hD5.trans hD6).below
      have b4 : Below w.heap.size w w7 := b3.trans (hB7.mono b3.size)
      have b5 : Below w.heap.size w w8 := b4.trans hD8.below
      exact b5.trans (hB9.mono b5.size)

end Go.Proofs.Ytbkeommlolcaiaa
