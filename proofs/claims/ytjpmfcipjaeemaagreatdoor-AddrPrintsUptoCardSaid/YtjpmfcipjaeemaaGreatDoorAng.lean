/-
  addr.angle.
-/
import Derived.Test.YtjpmfcipjaeemaaGreatDoorAds
namespace Go.Proofs.YtjpmfcipjaeemaaGreatDoor
open Go.RowKit

theorem ang_end (q : Bool) (k : Int) : angGo q [] k = -1 := by rw [angGo]
theorem ang_step (s : ByteArray) (b : Bool) (k : Nat) (h : k < s.size) (hp : angS (us s) = angGo b ((us s).drop k) (k : Int)) :
    (b = true ∧ ((s[k].toNat : Int) == 92) = true ∧ angS (us s) = angGo b ((us s).drop (k + 2)) ((k + 2 : Nat) : Int)) ∨
    ((b = false ∨ ((s[k].toNat : Int) == 92) = false) ∧ ((s[k].toNat : Int) == 34) = true ∧ angS (us s) = angGo (!b) ((us s).drop (k + 1)) ((k + 1 : Nat) : Int)) ∨
    ((b = false ∨ ((s[k].toNat : Int) == 92) = false) ∧ ((s[k].toNat : Int) == 34) = false ∧ b = false ∧ ((s[k].toNat : Int) == 60) = true ∧ angS (us s) = (k : Int)) ∨
    ((b = false ∨ ((s[k].toNat : Int) == 92) = false) ∧ ((s[k].toNat : Int) == 34) = false ∧ (b = true ∨ ((s[k].toNat : Int) == 60) = false) ∧ angS (us s) = angGo b ((us s).drop (k + 1)) ((k + 1 : Nat) : Int)) := by
  rw [hp, drop_us s k h]
  have t : ∀ n : Nat, ((s[k].toNat : Int) == (n : Int)) = decide (s[k].toNat = n) := fun n => by
    rw [Bool.eq_iff_iff, beq_iff_eq, decide_eq_true_iff]; omega
  have t92 := t 92
  have t34 := t 34
  have t60 := t 60
  simp only [Int.cast_ofNat_Int] at t92 t34 t60
  rw [t92, t34, t60]
  by_cases h1 : b = true ∧ s[k].toNat = 92
  · refine .inl ⟨h1.1, decide_eq_true h1.2, ?_⟩
    obtain ⟨rfl, h2⟩ := h1
    by_cases h3 : k + 1 < s.size
    · rw [drop_us s (k + 1) h3, ang_esc _ _ _ _ h2]
      congr 1
    · rw [drop_us_end s (k + 1) (by omega), drop_us_end s (k + 2) (by omega), ang_end]
      rw [angGo.eq_def]; dsimp only; rw [if_pos ⟨rfl, h2⟩]
  · refine .inr ?_
    have hb : b = false ∨ decide (s[k].toNat = 92) = false := by
      cases b
      · exact .inl rfl
      · exact .inr (decide_eq_false (fun e => h1 ⟨rfl, e⟩))
    rw [ang_cons _ _ _ _ h1]
    by_cases h2 : s[k].toNat = 34
    · exact .inl ⟨hb, decide_eq_true h2, by rw [if_pos h2]; rfl⟩
    · refine .inr ?_
      rw [if_neg h2]
      by_cases h3 : b = false ∧ s[k].toNat = 60
      · exact .inl ⟨hb, decide_eq_false h2, h3.1, decide_eq_true h3.2, by rw [if_pos h3]⟩
      · refine .inr ⟨hb, decide_eq_false h2, ?_, by rw [if_neg h3]; rfl⟩
        cases b
        · exact .inr (decide_eq_false (fun e => h3 ⟨rfl, e⟩))
        · exact .inl rfl
theorem ang_ge : ∀ (n : Nat) (l : List UInt8) (q : Bool) (k : Int), l.length ≤ n → 0 ≤ k → angGo q l k = -1 ∨ (k ≤ angGo q l k ∧ angGo q l k < k + l.length)
  | n, [], q, k, _, _ => .inl (ang_end q k)
  | 0, c :: r, q, k, h, _ => by simp at h
  | n + 1, c :: r, q, k, h, hk => by
    rw [List.length_cons] at h
    by_cases h1 : q = true ∧ c.toNat = 92
    · cases r with
      | nil => left; rw [angGo.eq_def]; dsimp only; rw [if_pos h1]
      | cons d r =>
        obtain ⟨rfl, h2⟩ := h1
        rw [ang_esc _ _ _ _ h2]
        rcases ang_ge n r true (k + 2) (by simp at h; omega) (by omega) with h3 | h3
        · exact .inl h3
        · right; simp; omega
    · rw [ang_cons _ _ _ _ h1]
      split
      · rcases ang_ge n r (!q) (k + 1) (by omega) (by omega) with h3 | h3
        · exact .inl h3
        · right; simp; omega
      · split
        · right; simp; omega
        · rcases ang_ge n r q (k + 1) (by omega) (by omega) with h3 | h3
          · exact .inl h3
          · right; simp; omega
theorem angS_lt (l : List UInt8) : angS l = -1 ∨ (0 ≤ angS l ∧ angS l < l.length) := by
  rcases ang_ge l.length l false 0 (Nat.le_refl _) (Int.le_refl _) with h | h
  · exact .inl h
  · exact .inr ⟨h.1, by have := h.2; unfold angS; omega⟩
set_option maxHeartbeats 1600000 in
theorem angle_c (s : ByteArray) (hs : s.size ≤ 4294967280) (w : World) :
    Calls Tryz.prog 23 #[.string s] w fun e w' => e = .returned (.int .i64 (angS (us s))) ∧ w = w' := by
  have HST := Lib.hid (fun b k h hp => ang_step s b k h hp)
  go_enter Tryz.func23, Tryz.ntmps23
  go_wp2
  go_loop [3, 4] (fun q i => ∃ (b : Bool) (k : Nat), k ≤ s.size + 1 ∧ q = .bool b ∧ i = .int .i64 k ∧ Hid (angS (us s) = angGo b ((us s).drop k) (k : Int))) (fun _ i => s.size + 1 - (intOf i).toNat)
  case atStart => exact ⟨false, 0, Nat.zero_le _, rfl, rfl, Lib.hid rfl⟩
  case round =>
    obtain ⟨b, k, hk, rfl, rfl, HP⟩ := hrel
    by_cases hlt : k < s.size
    · have k0 : (0 : Int) ≤ (k : Int) := by omega
      have k1 : (k : Int) < (s.size : Int) := by omega
      rcases HST.out b k hlt HP.out with ⟨rfl, h1, hn⟩ | ⟨h1, h2, hn⟩ | ⟨h1, h2, rfl, h3, hn⟩ | ⟨h1, h2, h3, hn⟩
      · have HN := Lib.hid hn
        clear hn HP
        go_wp2
        go_round
        case rel => exact ⟨true, k + 2, by omega, rfl, by go_num, HN⟩
        case measure => simp [intOf]; omega
      · have HN := Lib.hid hn
        clear hn HP
        cases b
        all_goals
          first | (have h4 : ((s[k].toNat : Int) == 92) = false := by simpa using h1) | skip
          clear h1
          go_wp2
          go_round
          case rel => exact ⟨_, k + 1, by omega, rfl, by go_num, HN⟩
          case measure => simp [intOf]; omega
      · have HN := Lib.hid hn
        clear hn HP h1
        go_wp2
        go_ret
        exact ⟨ret_int HN.out.symm, rfl⟩
      · have HN := Lib.hid hn
        clear hn HP
        cases b
        · have h4 : ((s[k].toNat : Int) == 60) = false := by simpa using h3
          clear h1 h3
          go_wp2
          go_round
          case rel => exact ⟨_, k + 1, by omega, rfl, by go_num, HN⟩
          case measure => simp [intOf]; omega
        · have h4 : ((s[k].toNat : Int) == 92) = false := by simpa using h1
          clear h1 h3
          go_wp2
          go_round
          case rel => exact ⟨_, k + 1, by omega, rfl, by go_num, HN⟩
          case measure => simp [intOf]; omega
    · have HN := Lib.hid (show angS (us s) = -1 by rw [HP.out, drop_us_end s k (by omega), ang_end])
      clear HP
      go_wp2
      go_ret
      exact ⟨ret_int HN.out.symm, rfl⟩

end Go.Proofs.YtjpmfcipjaeemaaGreatDoor
