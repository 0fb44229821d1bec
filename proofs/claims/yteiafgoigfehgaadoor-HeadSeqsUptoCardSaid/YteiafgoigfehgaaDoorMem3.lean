/-
  append to a row of the call's own beside another row of another element type.
-/
import Derived.Test.YteiafgoigfehgaaDoorRow
namespace Go.Proofs.YteiafgoigfehgaaDoor
open Go.RowKit

/-- every block of another element type than e stands as it stood -/
def Kept (e : TypeId) (w w' : World) : Prop := ∀ (g : Nat) (cs : Array Value) (t : TypeId) (fr : Nat × Nat), w.heap[g]? = some (.cells cs t fr) → t ≠ e → w'.heap[g]? = some (.cells cs t fr)
theorem own_kept {w w' : World} {base : Nat} {e e' : TypeId} {size n : Nat} {v : Value} {xs : List Value} (h : w.ownsRow base e size v n xs) (hk : Kept e' w w') (hne : e ≠ e') : w'.ownsRow base e size v n xs := by
  refine ⟨h.1, ?_⟩
  rcases h.2 with hn | ⟨g, cap, cur, rfl, hb, hgg, rest⟩
  · exact .inl hn
  · exact .inr ⟨g, cap, cur, rfl, hb, hk _ _ _ _ hgg hne, rest⟩
theorem Strs.kept {w w' : World} {base : Nat} {e e' : TypeId} {v : Value} {L : List (List UInt8)} (h : Strs w base e v L) (hk : Kept e' w w') (hne : e ≠ e') : Strs w' base e v L := own_kept h hk hne
theorem Byt.kept {w w' : World} {base : Nat} {e e' : TypeId} {v : Value} {l : List UInt8} (h : Byt w base e v l) (hk : Kept e' w w') (hne : e ≠ e') : Byt w' base e v l := own_kept h hk hne

section
variable {P : Program} {ops : Array Oper} {rest : List Oper} {o : Oper} {a : Act} {Q : Exit → Act → World → Prop}
theorem op_appK {K : Act → World → Prop} {wE w : World} {base : Nat} {e t : TypeId} {z : Value} {size bytes : Nat} {v : Value} {n : Nat} {xs : List Value} {s x : Operand} {news : Array Value} {m : Nat}
    (ho : o.op = .call { callee := .builtin .append, args := #[s, x], argTypes := #[t, t] })
    (ht : P.underlying t = some (.slice e)) (hi : infoIs P e z size bytes) (hzs : z.cells.size = size) (hsz : 0 < size)
    (hx : a.eval x = .slice (some ⟨w.heap.size, 0, none⟩) m m) (hs : a.eval s = v) (hown : w.ownsRow base e size v n xs) (hB : Below base wE w) (hbase : base ≤ wE.heap.size)
    (hm : news.size = m * size) (h1 : ∀ u ∈ news.toList, u.oneCell' = true) (hbytes : 0 < bytes) (hbd : (n + m) * bytes ≤ 140737488355328)
    (h : ∀ v' w', w'.ownsRow base e size v' (n + m) (xs ++ news.toList) → Below base wE w' → Kept e w w' → K (a.put o.dst v') w') :
    o.wp P a (w.alloc (.cells news e)) K Q := by
  obtain ⟨i, hi0, hi1, hi2, hi3⟩ := info_parts hi
  have hnm : n + m ≤ (n + m) * bytes := Nat.le_mul_of_pos_right _ hbytes
  have hsz2 := hB.size
  refine wp_append_own _ s x t ho base e i z size bytes ht hi0 hi1 hi2 hi3 hzs hsz v n xs hs (hown.alloc _) ⟨w.heap.size, 0, none⟩ m m news.toList hx (by simpa using hm) ?_ h1 (by simp only [maxLen]; omega) hbd (by simp; omega) ?_
  · intro j u hu
    have hadd : (⟨w.heap.size, 0, none⟩ : Addr).add j = ⟨w.heap.size, j, none⟩ := by unfold Addr.add; split <;> simp_all
    rw [hadd, World.cell?_alloc_at _ _ _ _ rfl]
    simpa using hu
  · intro v' w' ho' hg _
    have hB' : Below base wE (w.alloc (.cells news e)) := hB.alloc (by omega) _
    refine h v' w' ho' (hB'.grown hg (by simp; omega) ?_) ?_
    · intro k hk; exact ((hown.lt) k hk).1
    · intro g cs t' fr hgg hne
      have hlt := (Array.getElem?_eq_some_iff.1 hgg).1
      rw [hg.block g (by rw [World.size_alloc]; omega) ?_, Below.heap_alloc _ _ _ hlt, hgg]
      rcases hown.2 with ⟨rfl, _⟩ | ⟨g', cap, cur, rfl, _, hh, _⟩
      · simp [Value.ownBlock]
      · intro he
        have : g = g' := by simpa [Value.ownBlock] using he
        subst this
        rw [hh] at hgg
        injection hgg with hgg
        injection hgg with _ htt
        exact hne htt.symm
theorem wpList_appK_S {wE w : World} {base : Nat} {e t : TypeId} {v : Value} {L : List (List UInt8)} {s x : Operand} {S : ByteArray} (l : List UInt8) (hS : us S = l)
    (hgd : o.guard = none) (ho : o.op = .call { callee := .builtin .append, args := #[s, x], argTypes := #[t, t] })
    (ht : P.underlying t = some (.slice e)) (hi : infoIs P e (.string ⟨#[]⟩) 1 16)
    (hx : a.eval x = .slice (some ⟨w.heap.size, 0, none⟩) 1 1) (hs : a.eval s = v) (hown : Strs w base e v L) (hB : Below base wE w) (hbase : base ≤ wE.heap.size)
    (hbd : (L.length + 1) * 16 ≤ 140737488355328)
    (h : ∀ v' w', Strs w' base e v' (L ++ [l]) → Below base wE w' → Kept e w w' → wpList P ops Q rest (a.put o.dst v') w') :
    wpList P ops Q (o :: rest) a (w.alloc (.cells #[.string S] e)) := by
  subst hS
  refine wpList_plain hgd fun _ hK => op_appK ho ht hi rfl (by decide) hx hs hown hB hbase rfl (by simp; rfl) (by decide) hbd ?_
  intro v' w' h1 h2 h3
  refine hK _ _ (h v' w' ?_ h2 h3)
  unfold Strs; simpa [sv] using h1
theorem wpList_appK_B {wE w : World} {base : Nat} {e t : TypeId} {v : Value} {l : List UInt8} {s x : Operand} {E : Int} (c : UInt8) (hE : E = (c.toNat : Int))
    (hgd : o.guard = none) (ho : o.op = .call { callee := .builtin .append, args := #[s, x], argTypes := #[t, t] })
    (ht : P.underlying t = some (.slice e)) (hi : infoIs P e (.int .u8 0) 1 1)
    (hx : a.eval x = .slice (some ⟨w.heap.size, 0, none⟩) 1 1) (hs : a.eval s = v) (hown : Byt w base e v l) (hB : Below base wE w) (hbase : base ≤ wE.heap.size)
    (hbd : l.length + 1 ≤ 140737488355328)
    (h : ∀ v' w', Byt w' base e v' (l ++ [c]) → Below base wE w' → Kept e w w' → wpList P ops Q rest (a.put o.dst v') w') :
    wpList P ops Q (o :: rest) a (w.alloc (.cells #[.int .u8 E] e)) := by
  subst hE
  refine wpList_plain hgd fun _ hK => op_appK ho ht hi rfl (by decide) hx hs hown hB hbase rfl (by simp; rfl) (by decide) (by omega) ?_
  intro v' w' h1 h2 h3
  refine hK _ _ (h v' w' ?_ h2 h3)
  unfold Byt; simpa [bv] using h1
end

end Go.Proofs.YteiafgoigfehgaaDoor
