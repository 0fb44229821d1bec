/-
  What an address that may be is bounded by.
-/
import Derived.Test.YtjpmfcipjaeemaaGreatDoorAwk
namespace Go.Proofs.YtjpmfcipjaeemaaGreatDoor
set_option linter.unusedSimpArgs false
set_option linter.unusedVariables false
open Go.RowKit

theorem textGo_bd5 : ∀ (L done : List Prm) (s : List UInt8), textGo done L = some s → ∀ p ∈ L, p.name.length ≤ 64 ∧ p.value.length ≤ 64
  | [], _, _, _, p, hp => by cases hp
  | q :: r, done, s, h, p, hp => by
    rw [textGo] at h
    split at h
    · rename_i hm
      cases hq : textGo (done ++ [q]) r with
      | none => rw [hq] at h; cases h
      | some t =>
        rcases List.mem_cons.1 hp with rfl | hp
        · exact mayS_len hm
        · exact textGo_bd5 r _ t hq p hp
    · cases h
theorem check_bdA (d sc ur ho : List UInt8) (n : Int) (F G P : List Prm) (h : checkA ⟨d, ⟨sc, ur, ho, n, F, G⟩, P⟩ = 0) :
    d.length ≤ 64 ∧ sc.length ≤ 4 ∧ ur.length ≤ 64 ∧ ho.length ≤ 64 ∧ 0 ≤ n ∧ n ≤ 65535 ∧ (∀ p ∈ F, p.name.length ≤ 64 ∧ p.value.length ≤ 64) ∧ (∀ p ∈ G, p.name.length ≤ 64 ∧ p.value.length ≤ 64) ∧ (∀ p ∈ P, p.name.length ≤ 64 ∧ p.value.length ≤ 64) := by
  obtain ⟨_, h2, h3, h4⟩ := checkA_parts _ h
  obtain ⟨c1, c2, c3, c4, c5, c6, c7, _⟩ := checkU_parts _ h3
  exact ⟨h2, (scheme_facts _ c1).2.2.1, c2, (host_low _ c3).2.2, c4, c5, fun p hp => ⟨((listU_ok c6).2 p hp).2.1, ((listU_ok c6).2 p hp).2.2.1⟩, fun p hp => ⟨((listU_ok c7).2 p hp).2.1, ((listU_ok c7).2 p hp).2.2.1⟩, textGo_bd5 _ _ _ (textS_ok P h4).2⟩
theorem printA_yes (a : Adr) (h : checkA a = 0) : printA a = (textA a, 0) := by unfold printA; rw [if_pos h]

end Go.Proofs.YtjpmfcipjaeemaaGreatDoor
