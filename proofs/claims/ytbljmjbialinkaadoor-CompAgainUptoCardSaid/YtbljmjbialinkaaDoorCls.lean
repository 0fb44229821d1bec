/-
  What scan.Class and the reference's Class do at every byte.
  What the reference's Class does at every byte: as scan.Class.
-/
import Derived.Test.YtbljmjbialinkaaDoorRows
import Derived.Test.YtbljmjbialinkaaDoorBase
import Derived.WalkKit
import Derived.WalkSpells
import Derived.WalkLawsBesides
import Derived.Lib.Hide
namespace Go.Proofs.YtbljmjbialinkaaDoor

section
open Go.RowKit

theorem or32 (n : Nat) (h : n < 256) :
    ((65 ≤ n ∧ n ≤ 90) ∨ (97 ≤ n ∧ n ≤ 122) → 97 ≤ bits BinOp.or IntKind.u8 n 32 ∧ bits BinOp.or IntKind.u8 n 32 ≤ 122) ∧
    ((65 ≤ n ∧ n ≤ 70) ∨ (97 ≤ n ∧ n ≤ 102) → bits BinOp.or IntKind.u8 n 32 ≤ 102) ∧
    ((71 ≤ n ∧ n ≤ 90) ∨ (103 ≤ n ∧ n ≤ 122) → 102 < bits BinOp.or IntKind.u8 n 32) ∧
    (¬ ((65 ≤ n ∧ n ≤ 90) ∨ (97 ≤ n ∧ n ≤ 122)) → bits BinOp.or IntKind.u8 n 32 < 97 ∨ 122 < bits BinOp.or IntKind.u8 n 32) := by
  have := (by decide +kernel : ∀ n : Fin 256, 
    ((65 ≤ n.val ∧ n.val ≤ 90) ∨ (97 ≤ n.val ∧ n.val ≤ 122) → 97 ≤ bits BinOp.or IntKind.u8 n.val 32 ∧ bits BinOp.or IntKind.u8 n.val 32 ≤ 122) ∧
    ((65 ≤ n.val ∧ n.val ≤ 70) ∨ (97 ≤ n.val ∧ n.val ≤ 102) → bits BinOp.or IntKind.u8 n.val 32 ≤ 102) ∧
    ((71 ≤ n.val ∧ n.val ≤ 90) ∨ (103 ≤ n.val ∧ n.val ≤ 122) → 102 < bits BinOp.or IntKind.u8 n.val 32) ∧
    (¬ ((65 ≤ n.val ∧ n.val ≤ 90) ∨ (97 ≤ n.val ∧ n.val ≤ 122)) → bits BinOp.or IntKind.u8 n.val 32 < 97 ∨ 122 < bits BinOp.or IntKind.u8 n.val 32))
  exact this ⟨n, h⟩

set_option maxHeartbeats 400000 in
theorem classN (n : Nat) (hn : n < 256) (w : World) :
    Calls Tryd.prog 41 #[.int .u8 n] w fun e w' => e = .returned (.int .i64 (clsN n)) ∧ w = w' := by
  obtain ⟨o1, o2, o3, o4⟩ := or32 n hn
  have hc : ∀ v, clsN n = v → Calls Tryd.prog 41 #[.int .u8 n] w (fun e w' => e = .returned (.int .i64 v) ∧ w = w') → Calls Tryd.prog 41 #[.int .u8 n] w fun e w' => e = .returned (.int .i64 (clsN n)) ∧ w = w' := fun v hv h => by rw [hv]; exact h
  by_cases h1 : 48 ≤ n ∧ n ≤ 57
  · refine hc 93 (by simp [clsN, h1]) ?_
    clear hc o1 o2 o3 o4
    go_enter Tryd.func41, Tryd.ntmps41
    go_wp2
    all_goals (go_ret; exact ⟨rfl, rfl⟩)
  by_cases h2 : (65 ≤ n ∧ n ≤ 70) ∨ (97 ≤ n ∧ n ≤ 102)
  · refine hc 94 (by simp [clsN, h1, h2]) ?_
    have p1 := (o1 (by omega)).1
    have p2 := o2 h2
    clear hc o1 o2 o3 o4
    go_enter Tryd.func41, Tryd.ntmps41
    go_wp2
    all_goals (go_ret; exact ⟨rfl, rfl⟩)
  by_cases h3 : (65 ≤ n ∧ n ≤ 90) ∨ (97 ≤ n ∧ n ≤ 122)
  · refine hc 90 (by simp [clsN, h1, h2, h3]) ?_
    have p1 := o1 h3
    have p2 := o3 (by omega)
    clear hc o1 o2 o3 o4
    go_enter Tryd.func41, Tryd.ntmps41
    go_wp2
    all_goals (go_ret; exact ⟨rfl, rfl⟩)
  have h4 := o4 h3
  clear o1 o2 o3 o4
  by_cases s : n = 45 ∨ n = 46 ∨ n = 33 ∨ n = 42 ∨ n = 95 ∨ n = 126 ∨ n = 39 ∨ n = 37 ∨ n = 43 ∨ n = 96 ∨ n = 40 ∨ n = 41 ∨ n = 32 ∨ n = 9
  · rcases s with rfl | rfl | rfl | rfl | rfl | rfl | rfl | rfl | rfl | rfl | rfl | rfl | rfl | rfl
    all_goals
      clear hc h1 h2 h3 h4
      go_enter Tryd.func41, Tryd.ntmps41
      go_wp2
      all_goals (go_ret; exact ⟨by simp [clsN], rfl⟩)
  · refine hc 0 (by have : clsN n = 0 := by { unfold clsN; simp only [if_neg h1, if_neg h2, if_neg h3]; repeat (rw [if_neg (by omega)]) }; exact this) ?_
    have q1 : ((n : Int) == 45) = false := by simp; omega
    have q2 : ((n : Int) == 46) = false := by simp; omega
    have q3 : ((n : Int) == 33) = false := by simp; omega
    have q4 : ((n : Int) == 42) = false := by simp; omega
    have q5 : ((n : Int) == 95) = false := by simp; omega
    have q6 : ((n : Int) == 126) = false := by simp; omega
    have q7 : ((n : Int) == 39) = false := by simp; omega
    have q8 : ((n : Int) == 37) = false := by simp; omega
    have q9 : ((n : Int) == 43) = false := by simp; omega
    have q10 : ((n : Int) == 96) = false := by simp; omega
    have q11 : ((n : Int) == 40) = false := by simp; omega
    have q12 : ((n : Int) == 41) = false := by simp; omega
    have q13 : ((n : Int) == 32) = false := by simp; omega
    have q14 : ((n : Int) == 9) = false := by simp; omega
    have r1 : n < 48 ∨ 57 < n := by omega
    clear hc s h1 h2 h3
    rcases h4 with h4 | h4 <;> rcases r1 with r1 | r1
    all_goals
      go_enter Tryd.func41, Tryd.ntmps41
      go_wp2
      all_goals (go_ret; exact ⟨rfl, rfl⟩)

theorem class_c (c : UInt8) (w : World) :
    Calls Tryd.prog 41 #[.int .u8 c.toNat] w fun e w' => e = .returned (.int .i64 (cls c)) ∧ w = w' := classN c.toNat c.toNat_lt w

end

section
open Go.RowKit

theorem cls_vals (c : UInt8) : cls c = 93 ∨ cls c = 94 ∨ cls c = 90 ∨ cls c = 88 ∨ cls c = 24 ∨ cls c = 8 ∨ cls c = 16 ∨ cls c = 32 ∨ cls c = 0 :=
  all_bytes (fun c => cls c = 93 ∨ cls c = 94 ∨ cls c = 90 ∨ cls c = 88 ∨ cls c = 24 ∨ cls c = 8 ∨ cls c = 16 ∨ cls c = 32 ∨ cls c = 0) (by decide +kernel) c
theorem cls_blank (c : UInt8) : cls c = 32 ↔ c.toNat = 32 ∨ c.toNat = 9 :=
  all_bytes (fun c => cls c = 32 ↔ c.toNat = 32 ∨ c.toNat = 9) (by decide +kernel) c

end

end Go.Proofs.YtbljmjbialinkaaDoor
