/-
  head.Time, head.Call, head.Cseq and the reference's.
-/
import Derived.Test.YteiafgoigfehgaaDoorRow2
import Derived.Test.YteiafgoigfehgaaDoorScanL
import Derived.Test.YteiafgoigfehgaaDoorPureA
namespace Go.Proofs.YteiafgoigfehgaaDoor
open Go.RowKit

/-- the seconds that a text tells -/
def timeS (l : List UInt8) : Int × Int := if (number (trim l) 2147483647).2 = 9 then (2147483647, 0) else number (trim l) 2147483647

theorem time_c (s : ByteArray) (hs : s.size ≤ 9223372036854775807) (w : World) :
    Calls Tryd.prog 16 #[.string s] w fun e w' => e = .returned (.tuple #[.int .i64 (timeS (us s)).1, .int .i64 (timeS (us s)).2]) ∧ w = w' := by
  have lt : (trim (us s)).length ≤ s.size := by rw [← length_us]; exact trim_le (us s)
  have H1 := Lib.hid (fun wx => trim_c s hs wx)
  have H2 := Lib.hid (fun wx => number_c (bs (trim (us s))) (by rw [size_bs]; omega) 2147483647 (by decide) (by decide) wx)
  rw [us_bs] at H2
  clear lt
  obtain ⟨p, hp⟩ : ∃ p, p = number (trim (us s)) 2147483647 := ⟨_, rfl⟩
  have HS := Lib.hid (show timeS (us s) = if p.2 = 9 then (2147483647, 0) else p by rw [hp]; rfl)
  rw [← hp] at H2
  clear hp
  obtain ⟨a, b⟩ := p
  cases h9 : (b == 9)
  all_goals
    go_enter Tryd.func16, Tryd.ntmps16
    go_wp2_with (first
      | (go_at_call 37; refine (H1.out _).mono ?_; rintro e wx ⟨rfl, rfl⟩)
      | (go_at_call 46; refine (H2.out _).mono ?_; rintro e wx ⟨rfl, rfl⟩))
    go_ret2
    have h9' := h9
    simp at h9'
    refine ⟨?_, rfl⟩
    rw [HS.out]
    simp [h9']
theorem timeR_c (s : ByteArray) (hs : s.size ≤ 9223372036854775807) (w : World) :
    Calls Tryd.prog 26 #[.string s] w fun e w' => e = .returned (.tuple #[.int .i64 (timeS (us s)).1, .int .i64 (timeS (us s)).2]) ∧ w = w' := by
  have lt : (trim (us s)).length ≤ s.size := by rw [← length_us]; exact trim_le (us s)
  have H1 := Lib.hid (fun wx => trimR_c s hs wx)
  have H2 := Lib.hid (fun wx => numberR_c (bs (trim (us s))) (by rw [size_bs]; omega) 2147483647 (by decide) (by decide) wx)
  rw [us_bs] at H2
  clear lt
  obtain ⟨p, hp⟩ : ∃ p, p = number (trim (us s)) 2147483647 := ⟨_, rfl⟩
  have HS := Lib.hid (show timeS (us s) = if p.2 = 9 then (2147483647, 0) else p by rw [hp]; rfl)
  rw [← hp] at H2
  clear hp
  obtain ⟨a, b⟩ := p
  cases h9 : (b == 9)
  all_goals
    go_enter Tryd.func26, Tryd.ntmps26
    go_wp2_with (first
      | (go_at_call 42; refine (H1.out _).mono ?_; rintro e wx ⟨rfl, rfl⟩)
      | (go_at_call 53; refine (H2.out _).mono ?_; rintro e wx ⟨rfl, rfl⟩))
    go_ret2
    have h9' := h9
    simp at h9'
    refine ⟨?_, rfl⟩
    rw [HS.out]
    simp [h9']

/-- may a text be a Call-ID? -/
def seen (c : UInt8) : Bool := decide (33 ≤ c.toNat) && decide (c.toNat ≤ 126)
def callS (l : List UInt8) : Bool := decide (1 ≤ l.length) && decide (l.length ≤ 128) && l.all seen

/-- a sequence number with a method -/
def cseqS (n : Int) (l : List UInt8) : List UInt8 × Int := if n < 0 ∨ 2147483647 < n ∨ token l = false then ([], 80) else (digits n ++ 32 :: l, 0)

end Go.Proofs.YteiafgoigfehgaaDoor
