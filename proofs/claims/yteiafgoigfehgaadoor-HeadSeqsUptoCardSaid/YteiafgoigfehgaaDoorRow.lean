/-
  Rows that are read: slices of strings (and of structs, cell by cell), that came in or that a callee made.
-/
import Derived.Test.YteiafgoigfehgaaDoorMem2
import Derived.Lib.AppendStr
namespace Go.Proofs.YteiafgoigfehgaaDoor
open Go.RowKit

/-- a slice value that reads as these cells (row after row); nil where there are none, or not -/
def RRow (w : World) (v : Value) (n : Nat) (xs : List Value) : Prop :=
  ((∃ ao cap, v = .slice ao 0 cap) ∧ n = 0 ∧ xs = []) ∨
  ∃ b off cap, v = .slice (some ⟨b, off, none⟩) n cap ∧ n ≤ cap ∧ cap ≤ maxLen ∧ b < w.heap.size ∧ ∀ j u, xs[j]? = some u → w.cell? ⟨b, off + j, none⟩ = some u

theorem RRow.below {w w' : World} {B : Nat} {v : Value} {n : Nat} {xs : List Value} (h : RRow w v n xs) (hB : Below B w w') (hs : w.heap.size ≤ B) : RRow w' v n xs := by
  rcases h with h | ⟨b, off, cap, h1, h2, h2', h3, h4⟩
  · exact .inl h
  · exact .inr ⟨b, off, cap, h1, h2, h2', Nat.lt_of_lt_of_le h3 hB.size, fun j u hj => by rw [hB.cell (p := ⟨b, off + j, none⟩) (by show b < B; omega)]; exact h4 j u hj⟩
theorem RRow.drn {w w' : World} {v : Value} {n : Nat} {xs : List Value} (h : RRow w v n xs) (hD : Drn w w') : RRow w' v n xs := h.below (B := w.heap.size) hD.below (Nat.le_refl _)
theorem RRow.of_own {w : World} {base : Nat} {e : TypeId} {size : Nat} {v : Value} {n : Nat} {xs : List Value} (h : w.ownsRow base e size v n xs) : RRow w v n xs := by
  rcases h.2 with ⟨h1, h2⟩ | ⟨g, cap, cur, h1, hb, hg, hn, hc, _⟩
  · refine .inl ⟨⟨none, 0, h1⟩, h2, List.eq_nil_of_length_eq_zero ?_⟩
    rw [h.1, h2, Nat.zero_mul]
  · refine .inr ⟨g, 0, cap, h1, hn, hc, (Array.getElem?_eq_some_iff.1 hg).1, fun j u hj => ?_⟩
    have := h.cells (g := g) (by rw [h1]; rfl) j u hj
    have hadd : (⟨g, 0, none⟩ : Addr).add j = ⟨g, j, none⟩ := by unfold Addr.add; split <;> simp_all
    rw [hadd] at this
    simpa using this
theorem RRow.nil (w : World) : RRow w (.slice none 0 0) 0 [] := .inl ⟨⟨_, _, rfl⟩, rfl, rfl⟩

/-- a string as a cell -/
def sv (l : List UInt8) : Value := .string (bs l)
@[simp] theorem sv_one (l : List UInt8) : (sv l).oneCell' = true := rfl
/-- a slice of strings that reads as L -/
def RStrs (w : World) (v : Value) (L : List (List UInt8)) : Prop := RRow w v L.length (L.map sv)
/-- a slice of strings of the call's own -/
def Strs (w : World) (base : Nat) (e : TypeId) (v : Value) (L : List (List UInt8)) : Prop := w.ownsRow base e 1 v L.length (L.map sv)
theorem Strs.nil (w : World) (base : Nat) (e : TypeId) : Strs w base e (.slice none 0 0) [] := World.ownsRow_nil w base e 1
theorem Strs.read {w : World} {base : Nat} {e : TypeId} {v : Value} {L : List (List UInt8)} (h : Strs w base e v L) : RStrs w v L := RRow.of_own h
theorem Strs.below {w w' : World} {base B : Nat} {e : TypeId} {v : Value} {L : List (List UInt8)} (h : Strs w base e v L) (hB : Below B w w') (hs : w.heap.size ≤ B) : Strs w' base e v L := by
  refine ⟨h.1, ?_⟩
  rcases h.2 with hn | ⟨g, cap, cur, rfl, hb, hgg, rest⟩
  · exact .inl hn
  · refine .inr ⟨g, cap, cur, rfl, hb, ?_, rest⟩
    have hlt := (Array.getElem?_eq_some_iff.1 hgg).1
    rw [hB.block g (by omega)]; exact hgg
theorem Strs.cast {w : World} {base : Nat} {e : TypeId} {v : Value} {L M : List (List UInt8)} (h : Strs w base e v L) (hlm : L = M) : Strs w base e v M := hlm ▸ h
theorem RStrs.below {w w' : World} {B : Nat} {v : Value} {L : List (List UInt8)} (h : RStrs w v L) (hB : Below B w w') (hs : w.heap.size ≤ B) : RStrs w' v L := RRow.below h hB hs
theorem RStrs.cases {w : World} {v : Value} {L : List (List UInt8)} (h : RStrs w v L) : ((∃ ao cap, v = .slice ao 0 cap) ∧ L = []) ∨
    ∃ b off cap, v = .slice (some ⟨b, off, none⟩) L.length cap ∧ L.length ≤ cap ∧ cap ≤ maxLen ∧ b < w.heap.size ∧ ∀ j (hj : j < L.length), w.cell? ⟨b, off + j, none⟩ = some (.string (bs L[j])) := by
  rcases h with ⟨h1, h2, _⟩ | ⟨b, off, cap, h1, h2, h2', h3, h4⟩
  · exact .inl ⟨h1, List.eq_nil_of_length_eq_zero h2⟩
  · exact .inr ⟨b, off, cap, h1, h2, h2', h3, fun j hj => h4 j _ (by simp [hj, sv])⟩

section
variable {P : Program} {ops : Array Oper} {rest : List Oper} {o : Oper} {a : Act} {Q : Exit → Act → World → Prop}
theorem op_appS1 {K : Act → World → Prop} {wE w : World} {base : Nat} {e t : TypeId} {v : Value} {L : List (List UInt8)} {s x : Operand} {S : ByteArray} (l : List UInt8) (hS : us S = l)
    (ho : o.op = .call { callee := .builtin .append, args := #[s, x], argTypes := #[t, t] })
    (ht : P.underlying t = some (.slice e)) (hi : infoIs P e (.string ⟨#[]⟩) 1 16)
    (hx : a.eval x = .slice (some ⟨w.heap.size, 0, none⟩) 1 1) (hs : a.eval s = v) (hown : Strs w base e v L) (hB : Below base wE w) (hbase : base ≤ wE.heap.size)
    (hbd : (L.length + 1) * 16 ≤ 140737488355328)
    (h : ∀ v' w', Strs w' base e v' (L ++ [l]) → Below base wE w' → K (a.put o.dst v') w') :
    o.wp P a (w.alloc (.cells #[.string S] e)) K Q := by
  subst hS
  refine op_app ho ht hi rfl (by decide) hx hs hown hB hbase rfl (by simp; rfl) (by decide) hbd ?_
  intro v' w' h1 h2 _ _
  refine h v' w' ?_ h2
  unfold Strs; simpa [sv] using h1
theorem wpList_appS1 {wE w : World} {base : Nat} {e t : TypeId} {v : Value} {L : List (List UInt8)} {s x : Operand} {S : ByteArray} (l : List UInt8) (hS : us S = l)
    (hgd : o.guard = none) (ho : o.op = .call { callee := .builtin .append, args := #[s, x], argTypes := #[t, t] })
    (ht : P.underlying t = some (.slice e)) (hi : infoIs P e (.string ⟨#[]⟩) 1 16)
    (hx : a.eval x = .slice (some ⟨w.heap.size, 0, none⟩) 1 1) (hs : a.eval s = v) (hown : Strs w base e v L) (hB : Below base wE w) (hbase : base ≤ wE.heap.size)
    (hbd : (L.length + 1) * 16 ≤ 140737488355328)
    (h : ∀ v' w', Strs w' base e v' (L ++ [l]) → Below base wE w' → wpList P ops Q rest (a.put o.dst v') w') :
    wpList P ops Q (o :: rest) a (w.alloc (.cells #[.string S] e)) :=
  wpList_plain hgd fun _ hK => op_appS1 l hS ho ht hi hx hs hown hB hbase hbd fun v' w' a b => hK _ _ (h v' w' a b)
end

end Go.Proofs.YteiafgoigfehgaaDoor
