/-
  Lists of texts held against each other, and glued; digits.
-/
import Derived.Test.YteiafgoigfehgaaDoorScanJ
namespace Go.Proofs.YteiafgoigfehgaaDoor
open Go.RowKit

theorem RStrs.form {w : World} {v : Value} {L : List (List UInt8)} (h : RStrs w v L) : ∃ ao cap, v = .slice ao L.length cap ∧ L.length ≤ maxLen ∧
    (0 < L.length → ∃ b off, ao = some ⟨b, off, none⟩ ∧ b < w.heap.size ∧ ∀ j (hj : j < L.length), w.cell? ⟨b, off + j, none⟩ = some (.string (bs L[j]))) := by
  rcases h.cases with ⟨⟨ao, cap, rfl⟩, rfl⟩ | ⟨b, off, cap, rfl, h2, h2', h3, h4⟩
  · exact ⟨ao, cap, rfl, Nat.zero_le _, fun h => by simp at h⟩
  · exact ⟨some ⟨b, off, none⟩, cap, rfl, Nat.le_trans h2 h2', fun _ => ⟨b, off, rfl, h3, h4⟩⟩
theorem lists_drop (L M : List (List UInt8)) (k : Nat) (h : k < L.length) (h' : k < M.length) :
    (L.drop k == M.drop k) = ((L[k] == M[k]) && (L.drop (k + 1) == M.drop (k + 1))) := by
  rw [List.drop_eq_getElem_cons h, List.drop_eq_getElem_cons h']; rfl

theorem strCells_us (s : ByteArray) : Lib.strCells s = (us s).map bv := by
  simp [Lib.strCells, us, bv]
/-- append of a string to a byte buffer -/
theorem wpList_appStr {P : Program} {ops : Array Oper} {rest : List Oper} {o : Oper} {a : Act} {Q : Exit → Act → World → Prop} {wE w : World} {base : Nat} {e t u : TypeId} {v : Value} {l : List UInt8} {s x : Operand} {S : ByteArray} (m : List UInt8) (hS : us S = m)
    (hgd : o.guard = none) (ho : o.op = .call { callee := .builtin .append, args := #[s, x], argTypes := #[t, u] })
    (ht : P.underlying t = some (.slice e)) (hu : P.underlying u = some .string) (hi : infoIs P e (.int .u8 0) 1 1)
    (hx : a.eval x = .string S) (hs : a.eval s = v) (hown : Byt w base e v l) (hB : Below base wE w) (hbase : base ≤ wE.heap.size)
    (hbd : l.length + m.length ≤ 140737488355328)
    (h : ∀ v' w', Byt w' base e v' (l ++ m) → Below base wE w' → wpList P ops Q rest (a.put o.dst v') w') :
    wpList P ops Q (o :: rest) a w := by
  subst hS
  obtain ⟨i, hi0, hi1, hi2, hi3⟩ := info_parts hi
  have hz := hB.size
  rw [length_us] at hbd
  refine Lib.wpList_append_own_string _ hgd s x t u ho base e i ht hu hi0 hi1 hi2 hi3 v l.length (l.map bv) hs hown S hx (by simp only [maxLen]; omega) hbd (by omega) ?_
  intro v' w' h1 hg _
  refine h v' w' ?_ (hB.grown hg (by omega) fun k hk => ((World.ownsRow.lt hown) k hk).1)
  unfold Byt
  rw [strCells_us] at h1
  simpa [length_us] using h1

theorem glue_snoc (sep : List UInt8) (L : List (List UInt8)) (x : List UInt8) (h : L ≠ []) : glue sep (L ++ [x]) = glue sep L ++ (sep ++ x) := by
  induction L with
  | nil => exact absurd rfl h
  | cons y r ih =>
    cases r with
    | nil => simp [glue]
    | cons z r' =>
      have := ih (by simp)
      simp only [List.cons_append] at this ⊢
      rw [glue, this, glue]
      simp
theorem take_snoc (L : List (List UInt8)) (k : Nat) (h : k < L.length) : L.take (k + 1) = L.take k ++ [L[k]] := List.take_succ_eq_append_getElem h
theorem glue_step (sep : List UInt8) (L : List (List UInt8)) (k : Nat) (h : k < L.length) (h0 : 0 < k) : glue sep (L.take (k + 1)) = (glue sep (L.take k) ++ sep) ++ L[k] := by
  rw [take_snoc L k h, glue_snoc sep _ _ (by intro e; have := congrArg List.length e; rw [List.length_take, List.length_nil] at this; omega)]
  simp
theorem glue_first (sep : List UInt8) (L : List (List UInt8)) (h : 0 < L.length) : glue sep (L.take 1) = L[0] := by
  rw [take_snoc L 0 h]; rfl
theorem glue_le (sep : List UInt8) (L : List (List UInt8)) (k : Nat) : (glue sep (L.take k)).length ≤ (glue sep L).length := by
  rcases Nat.lt_or_ge k L.length with h | h
  · have : ∀ d, k + d ≤ L.length → (glue sep (L.take k)).length ≤ (glue sep (L.take (k + d))).length := by
      intro d
      induction d with
      | zero => intro _; exact Nat.le_refl _
      | succ d ih =>
        intro hd
        refine Nat.le_trans (ih (by omega)) ?_
        rw [show k + (d + 1) = (k + d) + 1 from by omega]
        rcases Nat.eq_zero_or_pos (k + d) with h0 | h0
        · rw [h0]; simp [glue]
        · rw [glue_step sep L (k + d) (by omega) h0]; simp
    have := this (L.length - k) (by omega)
    rwa [show k + (L.length - k) = L.length from by omega, List.take_length] at this
  · rw [List.take_of_length_le h]; exact Nat.le_refl _

end Go.Proofs.YteiafgoigfehgaaDoor
