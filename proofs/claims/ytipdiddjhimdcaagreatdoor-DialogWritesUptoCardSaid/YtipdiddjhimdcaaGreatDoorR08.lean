/- Contracts of Go functions, and plain laws. No condition but those told. -/
import Derived.Test.YtipdiddjhimdcaaGreatDoorR06
import Derived.Test.YtipdiddjhimdcaaGreatDoorR05
set_option linter.unusedSimpArgs false
set_option linter.unusedVariables false
set_option maxRecDepth 100000
namespace Go.Proofs.YtipdiddjhimdcaaGreatDoor
open Go.RowKit
def Hdr.cells (p : Hdr) : List Value := [sv p.name, sv p.value]
def RHdrs (w : World) (v : Value) (L : List Hdr) : Prop :=
 ((∃ ao cap, v = .slice ao 0 cap) ∧ L = []) ∨
 ∃ b off cap, v = .slice (some ⟨b, off, none⟩) L.length cap ∧ L.length ≤ cap ∧ cap ≤ maxLen ∧ b < w.heap.size ∧
  ∀ j (hj : j < L.length), w.cell? ⟨b, off + j * 2, none⟩ = some (sv L[j].name) ∧ w.cell? ⟨b, off + j * 2 + 1, none⟩ = some (sv L[j].value)
theorem RHdrs.below {w w' : World} {B : Nat} {v : Value} {L : List Hdr} (h : RHdrs w v L) (hB : Below B w w') (hs : w.heap.size ≤ B) : RHdrs w' v L := by
 rcases h with h | ⟨b, off, cap, h1, h2, h2', h3, h4⟩
 ·exact .inl h
 ·refine .inr ⟨b, off, cap, h1, h2, h2', Nat.lt_of_lt_of_le h3 hB.size, fun j hj => ?_⟩
  rw [hB.cell (p := ⟨b, off + j * 2, none⟩) (by show b < B; omega), hB.cell (p := ⟨b, off + j * 2 + 1, none⟩) (by show b < B; omega)]
  exact h4 j hj
theorem RHdrs.form {w : World} {v : Value} {L : List Hdr} (h : RHdrs w v L) : ∃ ao cap, v = .slice ao L.length cap ∧ L.length ≤ maxLen ∧
  (0 < L.length → ∃ b off, ao = some ⟨b, off, none⟩ ∧ b < w.heap.size ∧ ∀ j (hj : j < L.length), w.cell? ⟨b, off + j * 2, none⟩ = some (sv L[j].name) ∧ w.cell? ⟨b, off + j * 2 + 1, none⟩ = some (sv L[j].value)) := by
 rcases h with ⟨⟨ao, cap, rfl⟩, rfl⟩ | ⟨b, off, cap, rfl, h2, h2', h3, h4⟩
 ·exact ⟨ao, cap, rfl, Nat.zero_le _, fun h => by simp at h⟩
 ·exact ⟨some ⟨b, off, none⟩, cap, rfl, Nat.le_trans h2 h2', fun _ => ⟨b, off, rfl, h3, h4⟩⟩
theorem RHdrs.nil (w : World) : RHdrs w (.slice none 0 0) [] := .inl ⟨⟨_, _, rfl⟩, rfl⟩
def Hdrs (w : World) (base : Nat) (v : Value) (L : List Hdr) : Prop := w.ownsRow base 68 2 v L.length (L.flatMap Hdr.cells)
theorem Hdrs.nil (w : World) (base : Nat) : Hdrs w base (.slice none 0 0) [] := World.ownsRow_nil w base _ 2
theorem flat_atH : ∀ (L : List Hdr) (j : Nat) (hj : j < L.length) (i : Nat), i < 2 → (L.flatMap Hdr.cells)[j * 2 + i]? = L[j].cells[i]?
 | p :: r, 0, _, i, hi => by
  rw [List.flatMap_cons, Nat.zero_mul, Nat.zero_add, List.getElem?_append_left (by simpa [Hdr.cells] using hi)]; rfl
 | p :: r, j + 1, hj, i, hi => by
  rw [List.flatMap_cons, List.getElem?_append_right (by simp [Hdr.cells]; omega)]
  have : (j + 1) * 2 + i - p.cells.length = j * 2 + i := by simp [Hdr.cells]; omega
  rw [this]
  exact flat_atH r j (by simpa using hj) i hi
theorem Hdrs.read {w : World} {base : Nat} {v : Value} {L : List Hdr} (h : Hdrs w base v L) : RHdrs w v L := by
 rcases RRow.of_own h with ⟨h1, h2, _⟩ | ⟨b, off, cap, h1, h2, h2', h3, h4⟩
 ·exact .inl ⟨h1, List.eq_nil_of_length_eq_zero h2⟩
 ·refine .inr ⟨b, off, cap, h1, h2, h2', h3, fun j hj => ⟨?_, ?_⟩⟩
  ·exact h4 (j * 2) _ (flat_atH L j hj 0 (by decide))
  ·exact h4 (j * 2 + 1) _ (flat_atH L j hj 1 (by decide))
theorem Hdrs.below {w w' : World} {base B : Nat} {v : Value} {L : List Hdr} (h : Hdrs w base v L) (hB : Below B w w') (hs : w.heap.size ≤ B) : Hdrs w' base v L := by
 refine ⟨h.1, ?_⟩
 rcases h.2 with hn | ⟨g, cap, cur, rfl, hb, hgg, rest⟩
 ·exact .inl hn
 ·refine .inr ⟨g, cap, cur, rfl, hb, ?_, rest⟩
  have hlt := (Array.getElem?_eq_some_iff.1 hgg).1
  rw [hB.block g (by omega)]; exact hgg
theorem Hdrs.set {w : World} {base : Nat} {v : Value} {L : List Hdr} (h : Hdrs w base v L) {p : Addr} (hp : p.block < base) (x : Value) : Hdrs (w.setCell p x) base v L :=
 ownsRow_setCell_below h hp x
theorem Hdrs.len {w : World} {base : Nat} {v : Value} {L : List Hdr} (h : Hdrs w base v L) : ∃ ao cap, v = .slice ao L.length cap ∧ (∀ a, ao = some a → base ≤ a.block) := by
 rcases h.2 with ⟨h1, h2⟩ | ⟨g, cap, _, h1, hb, _⟩
 ·exact ⟨none, 0, by rw [h1, h2], fun a h => by cases h⟩
 ·exact ⟨_, cap, h1, fun a h => by injection h with h; rw [← h]; exact hb⟩
theorem hdrs_len {w : World} {base : Nat} {v : Value} {L : List Hdr} (h : Hdrs w base v L) (ty : TypeId) (w' : World) :
  (Builtin.len_ #[43] ty #[v]).run Tryz.prog w' = .ok (goInt L.length) w' := by
 obtain ⟨ao, cap, rfl, _⟩ := h.len
 exact run_len_slice _ 43 ty ao L.length cap (show Tryz.prog.underlying 43 = some (.slice (Tryz.prog.elem 43)) by kernel_rfl)
theorem infoH : infoIs Tryz.prog 68 (.agg #[.string ⟨#[]⟩, .string ⟨#[]⟩]) 2 32 := by unfold infoIs; kernel_rfl
def FreshH (B : Nat) (u : Value) : Prop := ∀ a n c, u = .slice (some a) n c → B ≤ a.block
theorem FreshH.mono {B B' : Nat} {u : Value} (h : FreshH B u) (hB : B' ≤ B) : FreshH B' u := fun a n c e => Nat.le_trans hB (h a n c e)
theorem Hdrs.fresh {w : World} {base : Nat} {v : Value} {L : List Hdr} (h : Hdrs w base v L) : FreshH base v := by
 obtain ⟨ao, cap, rfl, hb⟩ := h.len
 intro a n c e
 injection e with e _ _
 exact hb a e
theorem RHdrs.set {w : World} {B : Nat} {u : Value} {L : List Hdr} (h : RHdrs w u L) (hF : FreshH B u) {p : Addr} (hp : p.block < B) (x : Value) : RHdrs (w.setCell p x) u L := by
 rcases h with h | ⟨b, off, cap, h1, h2, h2', h3, h4⟩
 ·exact .inl h
 ·refine .inr ⟨b, off, cap, h1, h2, h2', by simpa using h3, fun j hj => ?_⟩
  have hne : B ≤ b := hF ⟨b, off, none⟩ _ _ h1
  have hk : ∀ o, (w.setCell p x).cell? ⟨b, o, none⟩ = w.cell? ⟨b, o, none⟩ := fun o => World.cell?_setCell_other w p ⟨b, o, none⟩ x (fun e => by rw [e] at hp; exact absurd hp (by show ¬ b < B; omega))
  rw [hk, hk]
  exact h4 j hj
section
variable {P : Program} {ops : Array Oper} {rest : List Oper} {o : Oper} {a : Act} {Q : Exit → Act → World → Prop}
theorem wpList_appH1 {wE w : World} {base : Nat} {t : TypeId} {v : Value} {L : List Hdr} {s x : Operand} {N V : ByteArray} (p : Hdr) (hN : us N = p.name) (hV : us V = p.value)
  (hgd : o.guard = none) (ho : o.op = .call { callee := .builtin .append, args := #[s, x], argTypes := #[t, t] })
  (ht : P.underlying t = some (.slice 68)) (hi : infoIs P 68 (.agg #[.string ⟨#[]⟩, .string ⟨#[]⟩]) 2 32)
  (hx : a.eval x = .slice (some ⟨w.heap.size, 0, none⟩) 1 1) (hs : a.eval s = v) (hown : Hdrs w base v L) (hB : Below base wE w) (hbase : base ≤ wE.heap.size)
  (hbd : (L.length + 1) * 32 ≤ 140737488355328)
  (hk : ∀ v' w', Hdrs w' base v' (L ++ [p]) → Below base wE w' → wpList P ops Q rest (a.put o.dst v') w') :
  wpList P ops Q (o :: rest) a (w.alloc (.cells #[.string N, .string V] 68)) := by
 refine wpList_app hgd ho ht hi rfl (by decide) hx hs hown hB hbase rfl (by simp; exact ⟨rfl, rfl⟩) (by decide) hbd ?_
 intro v' w' h1 h2 _ _
 refine hk v' w' ?_ h2
 unfold Hdrs
 have e : L.flatMap Hdr.cells ++ #[Value.string N, Value.string V].toList = (L ++ [p]).flatMap Hdr.cells := by
  rw [List.flatMap_append]; simp [Hdr.cells, sv, ← hN, ← hV]
 rw [← e, List.length_append]; exact h1
end
def ParsePost (r : Mg × Int) (w : World) (e : Ending) (w' : World) : Prop :=
 ∃ u, e = .returned (.tuple #[mgv r.1 u, .int .i64 r.2]) ∧ RHdrs w' u r.1.hdrs ∧ FreshH w.heap.size u ∧ Below w.heap.size w w'
def RHops (w : World) (v : Value) (L : List Hop) : Prop :=
 ((∃ ao cap, v = .slice ao 0 cap) ∧ L = []) ∨
 ∃ b off cap, v = .slice (some ⟨b, off, none⟩) L.length cap ∧ L.length ≤ cap ∧ cap ≤ maxLen ∧ b < w.heap.size ∧
  ∀ j (hj : j < L.length), w.cell? ⟨b, off + j * 3, none⟩ = some (sv L[j].host) ∧ w.cell? ⟨b, off + j * 3 + 1, none⟩ = some (.int .i64 L[j].port) ∧ ∃ u, w.cell? ⟨b, off + j * 3 + 2, none⟩ = some u ∧ RPrms w u L[j].ps
theorem RHops.below {w w' : World} {B : Nat} {v : Value} {L : List Hop} (h : RHops w v L) (hB : Below B w w') (hs : w.heap.size ≤ B) : RHops w' v L := by
 rcases h with h | ⟨b, off, cap, h1, h2, h2', h3, h4⟩
 ·exact .inl h
 ·refine .inr ⟨b, off, cap, h1, h2, h2', Nat.lt_of_lt_of_le h3 hB.size, fun j hj => ?_⟩
  obtain ⟨a0, a1, u, a2, hu⟩ := h4 j hj
  rw [hB.cell (p := ⟨b, off + j * 3, none⟩) (by show b < B; omega), hB.cell (p := ⟨b, off + j * 3 + 1, none⟩) (by show b < B; omega), hB.cell (p := ⟨b, off + j * 3 + 2, none⟩) (by show b < B; omega)]
  exact ⟨a0, a1, u, a2, hu.below hB hs⟩
theorem RHops.form {w : World} {v : Value} {L : List Hop} (h : RHops w v L) : ∃ ao cap, v = .slice ao L.length cap ∧ L.length ≤ maxLen ∧
  (0 < L.length → ∃ b off, ao = some ⟨b, off, none⟩ ∧ b < w.heap.size ∧ ∀ j (hj : j < L.length), w.cell? ⟨b, off + j * 3, none⟩ = some (sv L[j].host) ∧ w.cell? ⟨b, off + j * 3 + 1, none⟩ = some (.int .i64 L[j].port) ∧ ∃ u, w.cell? ⟨b, off + j * 3 + 2, none⟩ = some u ∧ RPrms w u L[j].ps) := by
 rcases h with ⟨⟨ao, cap, rfl⟩, rfl⟩ | ⟨b, off, cap, rfl, h2, h2', h3, h4⟩
 ·exact ⟨ao, cap, rfl, Nat.zero_le _, fun h => by simp at h⟩
 ·exact ⟨some ⟨b, off, none⟩, cap, rfl, Nat.le_trans h2 h2', fun _ => ⟨b, off, rfl, h3, h4⟩⟩
theorem RHops.nil (w : World) : RHops w (.slice none 0 0) [] := .inl ⟨⟨_, _, rfl⟩, rfl⟩
theorem cell_heap {w w' : World} {b : Nat} (h : w'.heap[b]? = w.heap[b]?) (o : Nat) : w'.cell? ⟨b, o, none⟩ = w.cell? ⟨b, o, none⟩ := by
 unfold World.cell?; rw [h]
theorem RPrms.heap {w w' : World} {u : Value} {L : List Prm} (h : RPrms w u L) (hs : w.heap.size ≤ w'.heap.size) (hb : L ≠ [] → ∀ a n c, u = .slice (some a) n c → a.block < w.heap.size → w'.heap[a.block]? = w.heap[a.block]?) : RPrms w' u L := by
 rcases h with h | ⟨b, off, cap, h1, h2, h2', h3, h4⟩
 ·exact .inl h
 ·by_cases hL : L = []
  ·subst hL
   exact .inl ⟨⟨_, _, h1⟩, rfl⟩
  ·refine .inr ⟨b, off, cap, h1, h2, h2', Nat.lt_of_lt_of_le h3 hs, fun j hj => ?_⟩
   have e := hb hL _ _ _ h1 h3
   rw [cell_heap e, cell_heap e, cell_heap e]
   exact h4 j hj
def rowV (r : Hop × Value) : List Value := [sv r.1.host, .int .i64 r.1.port, r.2]
def Hops (w : World) (base : Nat) (v : Value) (R : List (Hop × Value)) : Prop :=
 w.ownsRow base 87 3 v R.length (R.flatMap rowV) ∧ ∀ r ∈ R, RPrms w r.2 r.1.ps ∧ (r.1.ps ≠ [] → ∀ a n c, r.2 = .slice (some a) n c → v.ownBlock ≠ some a.block)
theorem Hops.nil (w : World) (base : Nat) : Hops w base (.slice none 0 0) [] := ⟨World.ownsRow_nil w base _ 3, fun r hr => by cases hr⟩
theorem flat_atV : ∀ (L : List (Hop × Value)) (j : Nat) (hj : j < L.length) (i : Nat), i < 3 → (L.flatMap rowV)[j * 3 + i]? = (rowV L[j])[i]?
 | p :: r, 0, _, i, hi => by
  rw [List.flatMap_cons, Nat.zero_mul, Nat.zero_add, List.getElem?_append_left (by simpa [rowV] using hi)]; rfl
 | p :: r, j + 1, hj, i, hi => by
  rw [List.flatMap_cons, List.getElem?_append_right (by simp [rowV]; omega)]
  have : (j + 1) * 3 + i - (rowV p).length = j * 3 + i := by simp [rowV]; omega
  rw [this]
  exact flat_atV r j (by simpa using hj) i hi
theorem Hops.read {w : World} {base : Nat} {v : Value} {R : List (Hop × Value)} (h : Hops w base v R) : RHops w v (R.map Prod.fst) := by
 rcases RRow.of_own h.1 with ⟨h1, h2, _⟩ | ⟨b, off, cap, h1, h2, h2', h3, h4⟩
 ·exact .inl ⟨h1, by rw [List.eq_nil_of_length_eq_zero h2]; rfl⟩
 ·refine .inr ⟨b, off, cap, by rw [List.length_map]; exact h1, by rw [List.length_map]; exact h2, h2', h3, fun j hj => ?_⟩
  rw [List.length_map] at hj
  rw [List.getElem_map]
  exact ⟨h4 (j * 3) _ (flat_atV R j hj 0 (by decide)), h4 (j * 3 + 1) _ (flat_atV R j hj 1 (by decide)), R[j].2, h4 (j * 3 + 2) _ (flat_atV R j hj 2 (by decide)), (h.2 _ (List.getElem_mem hj)).1⟩
theorem Hops.below {w w' : World} {base B : Nat} {v : Value} {R : List (Hop × Value)} (h : Hops w base v R) (hB : Below B w w') (hs : w.heap.size ≤ B) : Hops w' base v R := by
 refine ⟨⟨h.1.1, ?_⟩, fun r hr => ⟨(h.2 r hr).1.below hB hs, (h.2 r hr).2⟩⟩
 rcases h.1.2 with hn | ⟨g, cap, cur, rfl, hb, hgg, rest⟩
 ·exact .inl hn
 ·refine .inr ⟨g, cap, cur, rfl, hb, ?_, rest⟩
  have hlt := (Array.getElem?_eq_some_iff.1 hgg).1
  rw [hB.block g (by omega)]; exact hgg
theorem Hops.lt {w : World} {base : Nat} {v : Value} {R : List (Hop × Value)} (h : Hops w base v R) : ∀ k, v.ownBlock = some k → k < w.heap.size := by
 intro k hk
 rcases h.1.2 with ⟨rfl, _⟩ | ⟨g, cap, cur, rfl, hb, hgg, rest⟩
 ·simp [Value.ownBlock] at hk
 ·have e : g = k := by simpa [Value.ownBlock] using hk
  subst e
  exact (Array.getElem?_eq_some_iff.1 hgg).1
theorem Hops.len {w : World} {base : Nat} {v : Value} {R : List (Hop × Value)} (h : Hops w base v R) : ∃ ao cap, v = .slice ao R.length cap ∧ (∀ a, ao = some a → base ≤ a.block) := by
 rcases h.1.2 with ⟨h1, h2⟩ | ⟨g, cap, _, h1, hb, _⟩
 ·exact ⟨none, 0, by rw [h1, h2], fun a h => by cases h⟩
 ·exact ⟨_, cap, h1, fun a h => by injection h with h; rw [← h]; exact hb⟩
end Go.Proofs.YtipdiddjhimdcaaGreatDoor
