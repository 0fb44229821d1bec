/-
  head.Seq.
-/
import Derived.Test.YteiafgoigfehgaaDoorHostC
import Derived.Test.YteiafgoigfehgaaDoorHeadA
namespace Go.Proofs.YteiafgoigfehgaaDoor
open Go.RowKit

/-- a sequence number with a method -/
def seqP (l : List UInt8) : Int × List UInt8 × Int :=
  if (cutb 32 (swapb 9 32 (trim l))).2.2 = false ∨ (number (cutb 32 (swapb 9 32 (trim l))).1 2147483647).2 ≠ 0 ∨ token (trim (cutb 32 (swapb 9 32 (trim l))).2.1) = false then (0, [], 80)
  else ((number (cutb 32 (swapb 9 32 (trim l))).1 2147483647).1, trim (cutb 32 (swapb 9 32 (trim l))).2.1, 0)
def SeqPost (p : Int × List UInt8 × Int) (w : World) (e : Ending) (w' : World) : Prop :=
  e = .returned (.tuple #[.int .i64 p.1, .string (bs p.2.1), .int .i64 p.2.2]) ∧ Below w.heap.size w w'

set_option maxHeartbeats 1600000 in
theorem seq_c (s : ByteArray) (hs : s.size ≤ 4294967280) (w : World) (hm : Ml w) :
    Calls Tryd.prog 22 #[.string s] w (SeqPost (seqP (us s)) w) := by
  have HM := Lib.hid hm
  clear hm
  have hl1 := trim_le (us s)
  rw [length_us] at hl1
  have HT := Lib.hid (fun wx => trim_c s (by omega) wx)
  have HR := Lib.hid (fun wx (hx : Ml wx) => replaceAll_c (bs (trim (us s))) (by rw [size_bs]; omega) 9 32 (by decide) wx hx)
  rw [us_bs] at HR
  have hl2 := swapb_len 9 32 (trim (us s))
  have HC := Lib.hid (fun wx (hx : Ml wx) => cut_c (bs (swapb 9 32 (trim (us s)))) (by rw [size_bs]; omega) 32 wx hx)
  rw [us_bs] at HC
  have hl3 := cutb_le 32 (swapb 9 32 (trim (us s)))
  have HP := Lib.hid (show seqP (us s) = if (cutb 32 (swapb 9 32 (trim (us s)))).2.2 = false ∨ (number (cutb 32 (swapb 9 32 (trim (us s)))).1 2147483647).2 ≠ 0 ∨ token (trim (cutb 32 (swapb 9 32 (trim (us s)))).2.1) = false then (0, [], 80)
    else ((number (cutb 32 (swapb 9 32 (trim (us s)))).1 2147483647).1, trim (cutb 32 (swapb 9 32 (trim (us s)))).2.1, 0) from rfl)
  obtain ⟨sw, hsw⟩ : ∃ sw, sw = swapb 9 32 (trim (us s)) := ⟨_, rfl⟩
  rw [← hsw] at HR HC HP hl2 hl3
  obtain ⟨tr, htr⟩ : ∃ tr, tr = trim (us s) := ⟨_, rfl⟩
  rw [← htr] at HT HR hl1 hl2
  clear hsw htr
  obtain ⟨c, hc⟩ : ∃ c, c = cutb 32 sw := ⟨_, rfl⟩
  rw [← hc] at HC HP hl3
  clear hc
  obtain ⟨a, b, ok⟩ := c
  dsimp only at HC HP hl3
  have HN := Lib.hid (fun wx => number_c (bs a) (by rw [size_bs]; omega) 2147483647 (by decide) (by decide) wx)
  have HT2 := Lib.hid (fun wx => trim_c (bs b) (by rw [size_bs]; omega) wx)
  have hl4 := trim_le b
  have HK := Lib.hid (fun wx => token_c (bs (trim b)) (by rw [size_bs]; omega) wx)
  rw [us_bs] at HN HT2 HK
  clear hl1 hl2 hl3 hl4
  obtain ⟨n, hn⟩ : ∃ n, n = number a 2147483647 := ⟨_, rfl⟩
  rw [← hn] at HN HP
  obtain ⟨m, hm⟩ : ∃ m, m = trim b := ⟨_, rfl⟩
  rw [← hm] at HT2 HK HP
  clear hn hm
  obtain ⟨n, ne⟩ := n
  dsimp only at HN HP
  have hcase : (ok = false ∧ seqP (us s) = (0, [], 80)) ∨ (ok = true ∧ (ne != 0) = true ∧ seqP (us s) = (0, [], 80)) ∨ (ok = true ∧ (ne != 0) = false ∧ token m = false ∧ seqP (us s) = (0, [], 80)) ∨ (ok = true ∧ (ne != 0) = false ∧ token m = true ∧ seqP (us s) = (n, m, 0)) := by
    rw [HP.out]
    cases ok
    · exact .inl ⟨rfl, if_pos (.inl rfl)⟩
    refine .inr ?_
    cases hq : (ne != 0)
    case true => exact .inl ⟨rfl, rfl, if_pos (.inr (.inl (by simpa using hq)))⟩
    refine .inr ?_
    cases ht : token m
    · exact .inl ⟨rfl, rfl, rfl, if_pos (.inr (.inr rfl))⟩
    · refine .inr ⟨rfl, rfl, rfl, if_neg ?_⟩
      rintro (h | h | h)
      · cases h
      · exact h (by simpa using hq)
      · cases h
  clear HP
  have H1 := Lib.hid HM.out
  rcases hcase with ⟨rfl, hE⟩ | ⟨rfl, hne, hE⟩ | ⟨rfl, hne, htk, hE⟩ | ⟨rfl, hne, htk, hE⟩
  case inl | inr.inl =>
    all_goals
      have HE := Lib.hid hE
      clear hE
      go_enter Tryd.func22, Tryd.ntmps22
      go_wp2_with (first | (go_at_call 37; (first | ((with_reducible refine (HT.out _).mono ?_); rintro e wx ⟨rfl, rfl⟩) | ((with_reducible refine (HT2.out _).mono ?_); rintro e wx ⟨rfl, rfl⟩))) | (go_at_call 51; refine (HR.out _ HM.out).mono ?_; rintro e w1 ⟨rfl, hC⟩) | (go_at_call 39; refine (HC.out _ (HM.out.below hC)).mono ?_; rintro e w2 ⟨rfl, hD⟩; have hB2 := hC.trans (hD.below (B := w.heap.size))) | (go_at_call 46; refine (HN.out _).mono ?_; rintro e wx ⟨rfl, rfl⟩) | (go_at_call 40; refine (HK.out _).mono ?_; rintro e wx ⟨rfl, rfl⟩))
      go_ret3
      exact ⟨by rw [HE.out]; rfl, hB2⟩
  all_goals
    have HE := Lib.hid hE
    rw [htk] at HK
    clear hE htk
    go_enter Tryd.func22, Tryd.ntmps22
    go_wp2_with (first | (go_at_call 37; (first | ((with_reducible refine (HT.out _).mono ?_); rintro e wx ⟨rfl, rfl⟩) | ((with_reducible refine (HT2.out _).mono ?_); rintro e wx ⟨rfl, rfl⟩))) | (go_at_call 51; refine (HR.out _ HM.out).mono ?_; rintro e w1 ⟨rfl, hC⟩) | (go_at_call 39; refine (HC.out _ (HM.out.below hC)).mono ?_; rintro e w2 ⟨rfl, hD⟩; have hB2 := hC.trans (hD.below (B := w.heap.size))) | (go_at_call 46; refine (HN.out _).mono ?_; rintro e wx ⟨rfl, rfl⟩) | (go_at_call 40; refine (HK.out _).mono ?_; rintro e wx ⟨rfl, rfl⟩))
    go_ret3
    exact ⟨by rw [HE.out]; rfl, hB2⟩

end Go.Proofs.YteiafgoigfehgaaDoor
