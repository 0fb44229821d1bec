/-
  What the reference's Class does at every byte: as scan.Class.
-/
import Derived.Test.YteiafgoigfehgaaDoorClass
namespace Go.Proofs.YteiafgoigfehgaaDoor
open Go.RowKit

theorem cls_vals (c : UInt8) : cls c = 93 ∨ cls c = 94 ∨ cls c = 90 ∨ cls c = 88 ∨ cls c = 24 ∨ cls c = 8 ∨ cls c = 16 ∨ cls c = 32 ∨ cls c = 0 :=
  all_bytes (fun c => cls c = 93 ∨ cls c = 94 ∨ cls c = 90 ∨ cls c = 88 ∨ cls c = 24 ∨ cls c = 8 ∨ cls c = 16 ∨ cls c = 32 ∨ cls c = 0) (by decide +kernel) c
theorem cls_blank (c : UInt8) : cls c = 32 ↔ c.toNat = 32 ∨ c.toNat = 9 :=
  all_bytes (fun c => cls c = 32 ↔ c.toNat = 32 ∨ c.toNat = 9) (by decide +kernel) c

theorem has_v (b : Bool) (s : ByteArray) (hs : s.size ≤ 9223372036854775807) (c : UInt8) (w : World) (h : hasb (us s) c = b) :
    Calls Tryd.prog 67 #[.string s, .int .u8 c.toNat] w fun e w' => e = .returned (.bool b) ∧ w = w' := by
  rw [← h]; exact has_c s hs c w

set_option maxHeartbeats 4000000 in
theorem classR_v (v : Int) (c : UInt8) (hv : cls c = v) (w : World) :
    Calls Tryd.prog 52 #[.int .u8 c.toNat] w fun e w' => e = .returned (.int .i64 v) ∧ w = w' := by
  have HV := Lib.hid hv
  rcases cls_vals c with g | g | g | g | g | g | g | g | g <;> rw [g] at hv <;> subst hv
  case inr.inr.inr.inr.inr.inr.inr.inl =>
    have hb := (cls_blank c).1 g
    have HG := Lib.hid g
    clear g HV
    rcases hb with hb | hb
    · have q : ((c.toNat : Int) == 32) = true := by simp [hb]
      clear hb
      go_enter Tryd.func52, Tryd.ntmps52
      go_wp2_with (go_at_call 67; refine (has_v false _ (by decide) c _ ?_).mono ?_; (· exact all_bytes (fun c => cls c = 32 → hasb (us _) c = false) (by decide +kernel) c HG.out); rintro e w' ⟨rfl, rfl⟩)
      all_goals (go_ret; exact ⟨rfl, rfl⟩)
    · have q0 : ((c.toNat : Int) == 32) = false := by simp [hb]
      have q : ((c.toNat : Int) == 9) = true := by simp [hb]
      clear hb
      go_enter Tryd.func52, Tryd.ntmps52
      go_wp2_with (go_at_call 67; refine (has_v false _ (by decide) c _ ?_).mono ?_; (· exact all_bytes (fun c => cls c = 32 → hasb (us _) c = false) (by decide +kernel) c HG.out); rintro e w' ⟨rfl, rfl⟩)
      all_goals (go_ret; exact ⟨rfl, rfl⟩)
  all_goals
    have nb : ¬ (c.toNat = 32 ∨ c.toNat = 9) := by rw [← cls_blank, g]; decide
    have q : ((c.toNat : Int) == 32) = false := by simp; omega
    have q' : ((c.toNat : Int) == 9) = false := by simp; omega
    have HG := Lib.hid g
    clear g HV nb
    go_enter Tryd.func52, Tryd.ntmps52
    go_wp2_with (go_at_call 67; first | (refine (has_v true _ (by decide) c _ ?_).mono ?_; (· exact all_bytes (fun c => cls c = _ → hasb (us _) c = true) (by decide +kernel) c HG.out); rintro e w' ⟨rfl, rfl⟩) | (refine (has_v false _ (by decide) c _ ?_).mono ?_; (· exact all_bytes (fun c => cls c = _ → hasb (us _) c = false) (by decide +kernel) c HG.out); rintro e w' ⟨rfl, rfl⟩))
    all_goals (go_ret; exact ⟨rfl, rfl⟩)

theorem classR_c (c : UInt8) (w : World) :
    Calls Tryd.prog 52 #[.int .u8 c.toNat] w fun e w' => e = .returned (.int .i64 (cls c)) ∧ w = w' := classR_v _ c rfl w

end Go.Proofs.YteiafgoigfehgaaDoor
