/-
  Plain: how long the parts of a parsed message are.
-/
import Derived.Test.YtgpbnbaegghajaaDoorFrM
namespace Go.Proofs.YtgpbnbaegghajaaDoor
open Go.RowKit

theorem head_bd : ∀ (n : Nat) (l : List UInt8), l.length ≤ n → ∀ (L : List (List UInt8)) (cur : List UInt8) (L' : List (List UInt8)) (rest : List UInt8) (a : Nat), (∀ x ∈ L, x.length ≤ a) → headGo L cur l = some (L', rest) →
    (∀ x ∈ L', x.length ≤ a + cur.length + l.length) ∧ rest.length ≤ l.length
  | n, [], _, L, cur, L', rest, a, _, h => by rw [headGo.eq_def] at h; cases h
  | 0, c :: r, hn, _, _, _, _, _, _, _ => by simp at hn
  | n + 1, c :: r, hn, L, cur, L', rest, a, ha, h => by
    rw [List.length_cons] at hn
    rw [head_cons] at h
    split at h
    · cases r with
      | nil => cases h
      | cons d r' =>
        dsimp only at h
        rw [List.length_cons] at hn
        simp only [List.length_cons]
        split at h
        · injection h with h; injection h with h1 h2; subst h1 h2
          exact ⟨fun x hx => by have := ha x hx; omega, by omega⟩
        · obtain ⟨k1, k2⟩ := head_bd n r' (by omega) _ _ _ _ (a + cur.length + 2) (addLine_bd L cur a ha) h
          exact ⟨fun x hx => by have := k1 x hx; rw [List.length_nil] at this; omega, by omega⟩
    · obtain ⟨k1, k2⟩ := head_bd n r (by omega) _ _ _ _ a ha h
      simp only [List.length_cons]
      exact ⟨fun x hx => by have := k1 x hx; rw [List.length_append, List.length_cons, List.length_nil] at this; omega, by omega⟩
theorem startS_bd (l : List UInt8) (m : Mg) (h : startS l = some m) : m.method.length ≤ l.length ∧ m.target.length ≤ l.length ∧ m.reason.length ≤ l.length := by
  have l1 := cutb_le 32 l
  have l2 := cutb_le 32 (cutb 32 l).2.1
  unfold startS at h
  split at h
  · unfold startOf at h
    split at h
    · split at h
      · injection h with h; subst h
        refine ⟨?_, ?_, ?_⟩ <;> simp only [List.length_nil] <;> omega
      · cases h
    · split at h
      · injection h with h; subst h
        refine ⟨?_, ?_, ?_⟩ <;> simp only [List.length_nil] <;> omega
      · cases h
  · cases h
theorem trimR_le (l : List UInt8) : (trimR l).length ≤ l.length := by
  unfold trimR; rw [List.length_reverse]; exact Nat.le_trans (List.dropWhile_suffix _).length_le (by rw [List.length_reverse]; exact Nat.le_refl _)
theorem linesS_bd : ∀ (ts : List (List UInt8)) (H : List Hdr) (z : Int) (k : Nat), (∀ t ∈ ts, t.length ≤ k) → (∀ h ∈ H, h.name.length ≤ k + 16 ∧ h.value.length ≤ k) → ∀ h ∈ (linesS H z ts).1.1, h.name.length ≤ k + 16 ∧ h.value.length ≤ k
  | [], H, z, k, _, hH, h, hh => by rw [linesS] at hh; exact hH h hh
  | t :: r, H, z, k, ht, hH, h, hh => by
    have h1 : ∀ h ∈ (lineS H z t).1.1, h.name.length ≤ k + 16 ∧ h.value.length ≤ k := by
      intro x hx
      unfold lineS lineOf at hx
      split at hx
      · exact hH x hx
      · split at hx
        · split at hx
          · exact hH x hx
          · rcases List.mem_append.1 hx with hx | hx
            · exact hH x hx
            · simp only [List.mem_cons, List.not_mem_nil, or_false] at hx
              subst hx
              have l0 := ht t (List.mem_cons_self ..)
              have l1 := cutb_le 58 t
              have l2 := trimR_le (cutb 58 t).1
              have l3 := longS_le (trimR (cutb 58 t).1)
              have l4 := trim_length (cutb 58 t).2.1
              dsimp only
              omega
        · split at hx
          · exact hH x hx
          · exact hH x hx
    rw [linesS] at hh
    split at hh
    · exact h1 h hh
    · exact linesS_bd r _ _ k (fun x hx => ht x (List.mem_cons_of_mem _ hx)) h1 h hh
theorem parse_bd (l : List UInt8) : (parseS l).1.method.length ≤ 4096 ∧ (parseS l).1.target.length ≤ 4096 ∧ (parseS l).1.reason.length ≤ 4096 ∧ (parseS l).1.body.length ≤ 4096 ∧ ∀ h ∈ (parseS l).1.hdrs, h.name.length ≤ 4112 ∧ h.value.length ≤ 4096 := by
  have no : mg0.method.length ≤ 4096 ∧ mg0.target.length ≤ 4096 ∧ mg0.reason.length ≤ 4096 ∧ mg0.body.length ≤ 4096 ∧ ∀ h ∈ mg0.hdrs, h.name.length ≤ 4112 ∧ h.value.length ≤ 4096 :=
    ⟨Nat.zero_le _, Nat.zero_le _, Nat.zero_le _, Nat.zero_le _, fun h hh => by cases hh⟩
  unfold parseS
  split
  · exact no
  · rename_i hl
    split
    · exact no
    · rename_i L rest hh
      obtain ⟨k1, k2⟩ := head_bd l.length l (Nat.le_refl _) [] [] L rest 0 (fun x hx => by cases hx) hh
      rw [List.length_nil] at k1
      unfold parse2
      split
      · exact no
      · rename_i t ts
        split
        · exact no
        · rename_i m hm
          obtain ⟨b1, b2, b3⟩ := startS_bd _ _ hm
          have ht := k1 t (List.mem_cons_self ..)
          unfold endS
          split
          · exact no
          · split
            · exact no
            · refine ⟨by dsimp only; omega, by dsimp only; omega, by dsimp only; omega, ?_, ?_⟩
              · dsimp only; unfold bodyS; split
                · rw [List.length_take]; omega
                · omega
              · dsimp only
                intro h hx
                have := linesS_bd ts [] (-1) 4096 (fun x hx => by have := k1 x (List.mem_cons_of_mem _ hx); omega) (fun h hh => by cases hh) h hx
                exact this
theorem check_status (m : Mg) (h : checkS m = 0) : 0 ≤ m.status ∧ m.status ≤ 699 := by
  have h1 := (check_ok m h).1
  unfold firstS at h1
  split at h1
  · simp only [Bool.and_eq_true, decide_eq_true_eq] at h1; omega
  · simp only [Bool.and_eq_true, beq_iff_eq] at h1; omega

end Go.Proofs.YtgpbnbaegghajaaDoor
