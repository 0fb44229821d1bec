/-
  The statements ScanNumbers, ScanTexts, ScanSame: what the Go functions answer.
-/
import Derived.Test.YtbkeommlolcaiaaAwakeA
namespace Go.Proofs.Ytbkeommlolcaiaa
open Go.RowKit

theorem int_of_wf {n : Int} (h : (Lit.int .i64 n).wf = true) : -9223372036854775808 ≤ n ∧ n ≤ 9223372036854775807 := by
  simp [Lit.wf, IntKind.min, IntKind.max, IntKind.signed, IntKind.bits] at h; omega

theorem byte_of_wf {n : Int} (h : (Lit.int .u8 n).wf = true) : ∃ c : UInt8, n = (c.toNat : Int) := by
  simp [Lit.wf, IntKind.min, IntKind.max, IntKind.signed, IntKind.bits] at h
  refine ⟨UInt8.ofNat n.toNat, ?_⟩
  simp; omega

set_option maxHeartbeats 1600000 in
theorem numbers_law (s : ByteArray) (hs : s.size ≤ 140737488351232) (most : Int) (h0 : -9223372036854775808 ≤ most) (h1 : most ≤ 9223372036854775807) (n : Int) (n0 : -9223372036854775808 ≤ n) (n1 : n ≤ 9223372036854775807) (w : World) :
    Calls Try.prog 5 #[.string s, .int .i64 most, .int .i64 n] w fun e w' => e = .returned (.bool true) ∧ Below w.heap.size w w' := by
  have HN1 := Lib.hid (fun wx => number_c s (by omega) most h0 h1 wx)
  have HN2 := Lib.hid (fun wx => numberR_c s (by omega) most h0 h1 wx)
  have HD1 := Lib.hid (fun wx => digits_c n n0 n1 wx)
  have HD2 := Lib.hid (fun wx => digitsR_c n n0 n1 wx)
  obtain ⟨p, hp⟩ : ∃ p, p = number (us s) most := ⟨_, rfl⟩
  obtain ⟨d, hd⟩ : ∃ d, d = digits n := ⟨_, rfl⟩
  rw [← hp] at HN1 HN2
  rw [← hd] at HD1 HD2
  clear hp hd
  go_enter Try.func5, Try.ntmps5
  go_wp2_with fail
  refine (HN1.out _).mono ?_
  rintro e w' ⟨rfl, rfl⟩
  go_wp2_with fail
  refine (HN2.out _).mono ?_
  rintro e w' ⟨rfl, rfl⟩
  go_wp2_with fail
  refine (HD1.out _).mono ?_
  rintro e w1 ⟨rfl, hB1⟩
  go_wp2_with fail
  refine (HD2.out _).mono ?_
  rintro e w2 ⟨rfl, hD2⟩
  go_wp2_with fail
  refine (awake_c _).mono ?_
  rintro e w3 ⟨rfl, hB3⟩
  go_wp2_with fail
  all_goals
    go_ret
    exact ⟨by simp, hB1.trans ((hD2.below).trans (hB3.mono (Nat.le_trans hB1.size (hD2.below (B := 0)).size)))⟩

end Go.Proofs.Ytbkeommlolcaiaa
