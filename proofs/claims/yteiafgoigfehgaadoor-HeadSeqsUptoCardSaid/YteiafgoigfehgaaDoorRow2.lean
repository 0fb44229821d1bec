/-
  append of a row of strings that is read to a row of the call's own; the row '[]string{}'.
-/
import Derived.Test.YteiafgoigfehgaaDoorRow
namespace Go.Proofs.YteiafgoigfehgaaDoor
open Go.RowKit

section
variable {P : Program} {ops : Array Oper} {rest : List Oper} {o : Oper} {a : Act} {Q : Exit → Act → World → Prop}
theorem wpList_appR {wE w : World} {base : Nat} {e t : TypeId} {v vx : Value} {L M : List (List UInt8)} {s x : Operand}
    (hgd : o.guard = none) (ho : o.op = .call { callee := .builtin .append, args := #[s, x], argTypes := #[t, t] })
    (ht : P.underlying t = some (.slice e)) (hi : infoIs P e (.string ⟨#[]⟩) 1 16)
    (hx : a.eval x = vx) (hR : RStrs w vx M) (hM : M ≠ []) (hs : a.eval s = v) (hown : Strs w base e v L) (hB : Below base wE w) (hbase : base ≤ wE.heap.size)
    (hbd : (L.length + M.length) * 16 ≤ 140737488355328)
    (h : ∀ v' w', Strs w' base e v' (L ++ M) → Below base wE w' → wpList P ops Q rest (a.put o.dst v') w') :
    wpList P ops Q (o :: rest) a w := by
  refine wpList_plain hgd fun K hK => ?_
  obtain ⟨i, hi0, hi1, hi2, hi3⟩ := info_parts hi
  rcases hR.cases with ⟨_, h0⟩ | ⟨b, off, cap, hv, hc1, hc2, hlt, hcells⟩
  · exact absurd h0 hM
  · subst hv
    have hsz2 := hB.size
    refine wp_append_own _ s x t ho base e i (.string ⟨#[]⟩) 1 16 ht hi0 hi1 hi2 hi3 rfl (by decide) v L.length (L.map sv) hs hown ⟨b, off, none⟩ M.length cap (M.map sv) hx (by simp) ?_ ?_ (by simp only [maxLen]; omega) hbd (by omega) ?_
    · intro j u hu
      have hadd : (⟨b, off, none⟩ : Addr).add j = ⟨b, off + j, none⟩ := by unfold Addr.add; split <;> simp_all
      rw [hadd]
      have hj : j < M.length := by
        have := (List.getElem?_eq_some_iff.1 hu).1; simpa using this
      have hu' : u = .string (bs M[j]) := by
        have := (List.getElem?_eq_some_iff.1 hu).2; rw [← this]; simp [sv]
      rw [hu']; exact hcells j hj
    · intro u hu
      obtain ⟨m, _, rfl⟩ := List.mem_map.1 hu
      rfl
    · intro v' w' ho' hg _
      refine hK _ _ (h v' w' ?_ (hB.grown hg (by omega) ?_))
      · unfold Strs; simpa using ho'
      · intro k hk; exact ((World.ownsRow.lt hown) k hk).1
end

/-- the row '[]string{}' that has just been laid -/
theorem Strs.built (w : World) (base : Nat) (e : TypeId) (hb : base ≤ w.heap.size) : Strs (w.alloc (.cells #[] e)) base e (.slice (some ⟨w.heap.size, 0, none⟩) 0 0) [] :=
  ⟨rfl, .inr ⟨w.heap.size, 0, #[], rfl, hb, by unfold World.alloc; simp, Nat.le_refl _, Nat.zero_le _, rfl, rfl⟩⟩

end Go.Proofs.YteiafgoigfehgaaDoor
