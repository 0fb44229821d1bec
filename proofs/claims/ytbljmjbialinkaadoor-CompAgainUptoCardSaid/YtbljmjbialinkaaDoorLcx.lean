/-
  What the statements of chapter 17 share.
-/
import Derived.Test.YtbljmjbialinkaaDoorAwd
import Derived.Test.YtbljmjbialinkaaDoorOpb
namespace Go.Proofs.YtbljmjbialinkaaDoor
set_option linter.unusedSimpArgs false
set_option linter.unusedVariables false
open Go.RowKit Go.Sort Go.Maps

theorem cntP_bd (B : Nat) : ∀ L : List Pb, (∀ q ∈ L, PubSz B q) → cntP L ≤ L.length * (2 * B + 1)
  | [], _ => by simp [cntP]
  | p :: r, h => by
    have h1 := cntP_bd B r (fun q hq => h q (List.mem_cons_of_mem _ hq))
    obtain ⟨_, h2, h3⟩ := h p (List.mem_cons_self ..)
    unfold cntP at h1 ⊢
    rw [List.map_cons, List.sum_cons, List.length_cons, Nat.add_mul]
    omega
theorem RTups.cap {w : World} {v : Value} {L : List Tup} (h : RTups w v L) : ∃ ao cap, v = .slice ao L.length cap ∧ L.length ≤ cap := by
  rcases h with ⟨⟨ao, cap, rfl⟩, h2, h3⟩ | ⟨b, off, cap, rfl, h2, h2', h3, h4⟩
  · exact ⟨ao, cap, by rw [h2], by omega⟩
  · exact ⟨_, cap, rfl, h2⟩
theorem RStrs.cap {w : World} {v : Value} {L : List (List UInt8)} (h : RStrs w v L) : ∃ ao cap, v = .slice ao L.length cap ∧ L.length ≤ cap := by
  rcases h with ⟨⟨ao, cap, rfl⟩, h2, h3⟩ | ⟨b, off, cap, rfl, h2, h2', h3, h4⟩
  · exact ⟨ao, cap, by rw [h2], by omega⟩
  · exact ⟨_, cap, rfl, h2⟩
theorem RPubs.cap {w : World} {v : Value} {L : List Pb} (h : RPubs w v L) : ∃ ao cap, v = .slice ao L.length cap ∧ L.length ≤ cap ∧ L.length ≤ maxLen := by
  rcases h with ⟨⟨ao, cap, rfl⟩, rfl⟩ | ⟨b, off, cap, rfl, h2, h2', h3, h4⟩
  · exact ⟨ao, cap, rfl, Nat.zero_le _, Nat.zero_le _⟩
  · exact ⟨_, cap, rfl, h2, Nat.le_trans h2 h2'⟩
theorem RTups.front {w : World} {ao : Option Addr} {n cap : Nat} {L M N : List Tup} (h : RTups w (.slice ao n cap) L) (e : L = M ++ N) : RTups w (.slice ao M.length cap) M := by
  subst e
  rcases h with ⟨_, h2, h3⟩ | ⟨b, off, cap', h1, h2, h2', h3, h4⟩
  · have : M = [] := by
      have := List.length_eq_zero_iff.1 h2
      exact (List.append_eq_nil_iff.1 this).1
    subst this
    exact .inl ⟨⟨ao, cap, rfl⟩, rfl, rfl⟩
  · injection h1 with e1 e2 e3
    subst e1
    subst e3
    refine .inr ⟨b, off, cap, rfl, by rw [List.length_append] at h2; omega, h2', h3, fun j u hj => h4 j u ?_⟩
    rw [List.flatMap_append, List.getElem?_append_left (List.getElem?_eq_some_iff.1 hj).1]; exact hj
theorem RStrs.front {w : World} {ao : Option Addr} {n cap : Nat} {L M N : List (List UInt8)} (h : RStrs w (.slice ao n cap) L) (e : L = M ++ N) : RStrs w (.slice ao M.length cap) M := by
  subst e
  rcases h with ⟨_, h2, h3⟩ | ⟨b, off, cap', h1, h2, h2', h3, h4⟩
  · have : M = [] := by
      have := List.length_eq_zero_iff.1 h2
      exact (List.append_eq_nil_iff.1 this).1
    subst this
    exact .inl ⟨⟨ao, cap, rfl⟩, rfl, rfl⟩
  · injection h1 with e1 e2 e3
    subst e1
    subst e3
    refine .inr ⟨b, off, cap, rfl, by rw [List.length_append] at h2; omega, h2', h3, fun j u hj => h4 j u ?_⟩
    rw [List.map_append, List.getElem?_append_left (List.getElem?_eq_some_iff.1 hj).1]; exact hj
theorem RPubs.front {w : World} {ao : Option Addr} {n cap : Nat} {L : List Pb} (h : RPubs w (.slice ao n cap) L) (k : Nat) (hk : k ≤ L.length) : RPubs w (.slice ao k cap) (L.take k) := by
  have hl : (L.take k).length = k := by rw [List.length_take]; omega
  rcases h with ⟨_, rfl⟩ | ⟨b, off, cap', h1, h2, h2', h3, h4⟩
  · have : k = 0 := by simpa using hk
    subst this
    exact .inl ⟨⟨ao, cap, rfl⟩, rfl⟩
  · injection h1 with e1 e2 e3
    subst e1
    subst e3
    refine .inr ⟨b, off, cap, by rw [hl], by rw [hl]; omega, h2', h3, fun j hj => ?_⟩
    have hj' : j < L.length := by rw [hl] at hj; omega
    rw [List.getElem_take]
    exact h4 j hj'
theorem small_len (L : List Pb) (h : smallP L = true) : L.length ≤ 400 := by
  have := of_decide_eq_true h
  have := cntP_len L
  omega

end Go.Proofs.YtbljmjbialinkaaDoor
