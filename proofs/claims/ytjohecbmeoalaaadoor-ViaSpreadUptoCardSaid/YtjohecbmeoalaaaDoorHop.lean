/-
  Hops (host, port, parameters) as rows of three cells, read and of the call's own.
-/
import Derived.Test.YtjohecbmeoalaaaDoorVia
namespace Go.Proofs.YtjohecbmeoalaaaDoor
open Go.RowKit

/-- a slice of hops that reads as L -/
def RHops (w : World) (v : Value) (L : List Hop) : Prop :=
  ((∃ ao cap, v = .slice ao 0 cap) ∧ L = []) ∨
  ∃ b off cap, v = .slice (some ⟨b, off, none⟩) L.length cap ∧ L.length ≤ cap ∧ cap ≤ maxLen ∧ b < w.heap.size ∧
    ∀ j (hj : j < L.length), w.cell? ⟨b, off + j * 3, none⟩ = some (sv L[j].host) ∧ w.cell? ⟨b, off + j * 3 + 1, none⟩ = some (.int .i64 L[j].port) ∧ ∃ u, w.cell? ⟨b, off + j * 3 + 2, none⟩ = some u ∧ RPrms w u L[j].ps
theorem RHops.below {w w' : World} {B : Nat} {v : Value} {L : List Hop} (h : RHops w v L) (hB : Below B w w') (hs : w.heap.size ≤ B) : RHops w' v L := by
  rcases h with h | ⟨b, off, cap, h1, h2, h2', h3, h4⟩
  · exact .inl h
  · refine .inr ⟨b, off, cap, h1, h2, h2', Nat.lt_of_lt_of_le h3 hB.size, fun j hj => ?_⟩
    obtain ⟨a0, a1, u, a2, hu⟩ := h4 j hj
    rw [hB.cell (p := ⟨b, off + j * 3, none⟩) (by show b < B; omega), hB.cell (p := ⟨b, off + j * 3 + 1, none⟩) (by show b < B; omega), hB.cell (p := ⟨b, off + j * 3 + 2, none⟩) (by show b < B; omega)]
    exact ⟨a0, a1, u, a2, hu.below hB hs⟩
theorem RHops.form {w : World} {v : Value} {L : List Hop} (h : RHops w v L) : ∃ ao cap, v = .slice ao L.length cap ∧ L.length ≤ maxLen ∧
    (0 < L.length → ∃ b off, ao = some ⟨b, off, none⟩ ∧ b < w.heap.size ∧ ∀ j (hj : j < L.length), w.cell? ⟨b, off + j * 3, none⟩ = some (sv L[j].host) ∧ w.cell? ⟨b, off + j * 3 + 1, none⟩ = some (.int .i64 L[j].port) ∧ ∃ u, w.cell? ⟨b, off + j * 3 + 2, none⟩ = some u ∧ RPrms w u L[j].ps) := by
  rcases h with ⟨⟨ao, cap, rfl⟩, rfl⟩ | ⟨b, off, cap, rfl, h2, h2', h3, h4⟩
  · exact ⟨ao, cap, rfl, Nat.zero_le _, fun h => by simp at h⟩
  · exact ⟨some ⟨b, off, none⟩, cap, rfl, Nat.le_trans h2 h2', fun _ => ⟨b, off, rfl, h3, h4⟩⟩
theorem RHops.nil (w : World) : RHops w (.slice none 0 0) [] := .inl ⟨⟨_, _, rfl⟩, rfl⟩

theorem cell_heap {w w' : World} {b : Nat} (h : w'.heap[b]? = w.heap[b]?) (o : Nat) : w'.cell? ⟨b, o, none⟩ = w.cell? ⟨b, o, none⟩ := by
  unfold World.cell?; rw [h]
/-- parameters that lie in a block that stands as it stood -/
theorem RPrms.heap {w w' : World} {u : Value} {L : List Prm} (h : RPrms w u L) (hs : w.heap.size ≤ w'.heap.size) (hb : L ≠ [] → ∀ a n c, u = .slice (some a) n c → a.block < w.heap.size → w'.heap[a.block]? = w.heap[a.block]?) : RPrms w' u L := by
  rcases h with h | ⟨b, off, cap, h1, h2, h2', h3, h4⟩
  · exact .inl h
  · by_cases hL : L = []
    · subst hL
      exact .inl ⟨⟨_, _, h1⟩, rfl⟩
    · refine .inr ⟨b, off, cap, h1, h2, h2', Nat.lt_of_lt_of_le h3 hs, fun j hj => ?_⟩
      have e := hb hL _ _ _ h1 h3
      rw [cell_heap e, cell_heap e, cell_heap e]
      exact h4 j hj

def rowV (r : Hop × Value) : List Value := [sv r.1.host, .int .i64 r.1.port, r.2]
/-- a slice of hops of the call's own; each hop beside its parameters' slice, which lies in another block -/
def Hops (w : World) (base : Nat) (v : Value) (R : List (Hop × Value)) : Prop :=
  w.ownsRow base 25 3 v R.length (R.flatMap rowV) ∧ ∀ r ∈ R, RPrms w r.2 r.1.ps ∧ (r.1.ps ≠ [] → ∀ a n c, r.2 = .slice (some a) n c → v.ownBlock ≠ some a.block)
theorem Hops.nil (w : World) (base : Nat) : Hops w base (.slice none 0 0) [] := ⟨World.ownsRow_nil w base _ 3, fun r hr => by cases hr⟩
theorem flat_atV : ∀ (L : List (Hop × Value)) (j : Nat) (hj : j < L.length) (i : Nat), i < 3 → (L.flatMap rowV)[j * 3 + i]? = (rowV L[j])[i]?
  | p :: r, 0, _, i, hi => by
    rw [List.flatMap_cons, Nat.zero_mul, Nat.zero_add, List.getElem?_append_left (by simpa [rowV] using hi)]; rfl
  | p :: r, j + 1, hj, i, hi => by
    rw [List.flatMap_cons, List.getElem?_append_right (by simp [rowV]; omega)]
    have : (j + 1) * 3 + i - (rowV p).length = j * 3 + i := by simp [rowV]; omega
    rw [this]
    exact flat_atV r j (by simpa using hj) i hi
theorem Hops.read {w : World} {base : Nat} {v : Value} {R : List (Hop × Value)} (h : Hops w base v R) : RHops w v (R.map Prod.fst) := by
  rcases RRow.of_own h.1 with ⟨h1, h2, _⟩ | ⟨b, off, cap, h1, h2, h2', h3, h4⟩
  · exact .inl ⟨h1, by rw [List.eq_nil_of_length_eq_zero h2]; rfl⟩
  · refine .inr ⟨b, off, cap, by rw [List.length_map]; exact h1, by rw [List.length_map]; exact h2, h2', h3, fun j hj => ?_⟩
    rw [List.length_map] at hj
    rw [List.getElem_map]
    exact ⟨h4 (j * 3) _ (flat_atV R j hj 0 (by decide)), h4 (j * 3 + 1) _ (flat_atV R j hj 1 (by decide)), R[j].2, h4 (j * 3 + 2) _ (flat_atV R j hj 2 (by decide)), (h.2 _ (List.getElem_mem hj)).1⟩
theorem Hops.below {w w' : World} {base B : Nat} {v : Value} {R : List (Hop × Value)} (h : Hops w base v R) (hB : Below B w w') (hs : w.heap.size ≤ B) : Hops w' base v R := by
  refine ⟨⟨h.1.1, ?_⟩, fun r hr => ⟨(h.2 r hr).1.below hB hs, (h.2 r hr).2⟩⟩
  rcases h.1.2 with hn | ⟨g, cap, cur, rfl, hb, hgg, rest⟩
  · exact .inl hn
  · refine .inr ⟨g, cap, cur, rfl, hb, ?_, rest⟩
    have hlt := (Array.getElem?_eq_some_iff.1 hgg).1
    rw [hB.block g (by omega)]; exact hgg
theorem Hops.lt {w : World} {base : Nat} {v : Value} {R : List (Hop × Value)} (h : Hops w base v R) : ∀ k, v.ownBlock = some k → k < w.heap.size := by
  intro k hk
  rcases h.1.2 with ⟨rfl, _⟩ | ⟨g, cap, cur, rfl, hb, hgg, rest⟩
  · simp [Value.ownBlock] at hk
  · have e : g = k := by simpa [Value.ownBlock] using hk
    subst e
    exact (Array.getElem?_eq_some_iff.1 hgg).1
theorem Hops.len {w : World} {base : Nat} {v : Value} {R : List (Hop × Value)} (h : Hops w base v R) : ∃ ao cap, v = .slice ao R.length cap ∧ (∀ a, ao = some a → base ≤ a.block) := by
  rcases h.1.2 with ⟨h1, h2⟩ | ⟨g, cap, _, h1, hb, _⟩
  · exact ⟨none, 0, by rw [h1, h2], fun a h => by cases h⟩
  · exact ⟨_, cap, h1, fun a h => by injection h with h; rw [← h]; exact hb⟩
theorem hops_len {w : World} {base : Nat} {v : Value} {R : List (Hop × Value)} (h : Hops w base v R) (ty : TypeId) (w' : World) :
    (Builtin.len_ #[38] ty #[v]).run Tryd.prog w' = .ok (goInt R.length) w' := by
  obtain ⟨ao, cap, rfl, _⟩ := h.len
  exact run_len_slice _ 38 ty ao R.length cap (show Tryd.prog.underlying 38 = some (.slice (Tryd.prog.elem 38)) by kernel_rfl)
theorem infoV : infoIs Tryd.prog 25 (.agg #[.string ⟨#[]⟩, .int .i64 0, .slice none 0 0]) 3 48 := by unfold infoIs; kernel_rfl

section
variable {P : Program} {ops : Array Oper} {rest : List Oper} {o : Oper} {a : Act} {Q : Exit → Act → World → Prop}
/-- append of one that is read, to a row of the call's own: the row's block is the old one or a new one -/
theorem run_app_blk (w : World) (base : Nat) (t ty e : TypeId) (i : TypeInfo) (z : Value) (size bytes : Nat) (ht : P.underlying t = some (.slice e)) (hi : P.info? e = some i) (hz : i.zero = some z)
    (hsize : i.size = size) (hby : i.bytes = bytes) (hzs : z.cells.size = size) (hsz : 0 < size)
    (v : Value) (n : Nat) (xs : List Value) (hown : w.ownsRow base e size v n xs)
    (ad : Addr) (m c : Nat) (news : List Value) (hl : news.length = m * size) (hnews : ∀ j u, news[j]? = some u → w.cell? (ad.add j) = some u) (h1 : ∀ u ∈ news, u.oneCell' = true) (hm : 0 < m)
    (h63 : n + m ≤ maxLen) (hbytes : (n + m) * bytes ≤ 140737488355328) (hbase : base ≤ w.heap.size) :
    ∃ v' w', (Builtin.append_ #[t, t] ty #[v, .slice (some ad) m c]).run P w = .ok v' w' ∧ w'.ownsRow base e size v' (n + m) (xs ++ news) ∧ w.grownBy w' v.ownBlock ∧ (v'.ownBlock = v.ownBlock ∨ v'.ownBlock = some w.heap.size) := by
  obtain ⟨v', w', hr, h2, h3, _⟩ := run_append_own (P := P) w base t ty e i z size bytes ht hi hz hsize hby hzs hsz v n xs hown ad m c news hl hnews h1 h63 hbytes hbase
  refine ⟨v', w', hr, h2, h3, ?_⟩
  subst hsize
  subst hby
  have hsmall : n + m ≤ 9223372036854775807 := by simp only [maxLen] at h63; omega
  rcases hown.2 with ⟨rfl, rfl⟩ | ⟨g, cap, cur, rfl, hbg, hg, hnc, hcm, hcs, htake⟩
  · have hr2 := run_append_nil (P := P) w t ty e i z ht hi hz ad m c news hl hnews hm (by omega) (by have hb := hbytes; simp only [Nat.zero_add] at hb; omega)
    rw [hr] at hr2
    injection hr2 with e1 e2
    exact .inr (by rw [e1]; rfl)
  · by_cases hroom : n + m ≤ cap
    · have hfit : n * i.size + news.length ≤ cur.size := by rw [hl, hcs, ← Nat.add_mul]; exact Nat.mul_le_mul_right _ hroom
      have hr2 := run_append_room (P := P) w t ty e i ht hi g n cap cur hg ad m c news hl hnews h1 hroom hfit
      rw [hr] at hr2
      injection hr2 with e1 e2
      exact .inl (by rw [e1]; rfl)
    · have holds : ∀ j u, xs[j]? = some u → w.cell? ((⟨g, 0, none⟩ : Addr).add j) = some u := hown.cells (g := g) rfl
      have hr2 := run_append_grow (P := P) w t ty e i z ht hi hz ⟨g, 0, none⟩ n cap xs hown.1 holds ad m c news hl hnews (by omega) (by omega) (growslice_fits (by omega) hbytes)
      rw [hr] at hr2
      injection hr2 with e1 e2
      exact .inr (by rw [e1]; rfl)
/-- append of one hop that has just been laid -/
theorem op_appV {K : Act → World → Prop} {wE w : World} {base : Nat} {t : TypeId} {v u : Value} {R : List (Hop × Value)} {s x : Operand} {N : ByteArray} {n : Int} (q : Hop) (hN : us N = q.host) (hn : n = q.port)
    (ho : o.op = .call { callee := .builtin .append, args := #[s, x], argTypes := #[t, t] })
    (ht : P.underlying t = some (.slice 25)) (hi : infoIs P 25 (.agg #[.string ⟨#[]⟩, .int .i64 0, .slice none 0 0]) 3 48)
    (hx : a.eval x = .slice (some ⟨w.heap.size, 0, none⟩) 1 1) (hs : a.eval s = v) (hown : Hops w base v R) (hu : RPrms w u q.ps) (hub : q.ps ≠ [] → ∀ a n c, u = .slice (some a) n c → v.ownBlock ≠ some a.block) (hB : Below base wE w) (hbase : base ≤ wE.heap.size)
    (hbd : (R.length + 1) * 48 ≤ 140737488355328)
    (hk : ∀ v' w', Hops w' base v' (R ++ [(q, u)]) → Below base wE w' → K (a.put o.dst v') w') :
    o.wp P a (w.alloc (.cells #[.string N, .int .i64 n, u] 25)) K Q := by
  subst hn
  obtain ⟨i, hi0, hi1, hi2, hi3⟩ := info_parts hi
  have hsz2 := hB.size
  obtain ⟨ao, ca, hu1, _⟩ := hu.form
  have hone : ∀ x ∈ (#[Value.string N, Value.int .i64 q.port, u] : Array Value).toList, x.oneCell' = true := by
    subst hu1; simp; exact ⟨rfl, rfl, rfl⟩
  obtain ⟨v', w', hr, h2, h3, h4⟩ := run_app_blk (P := P) (w.alloc (.cells #[.string N, .int .i64 q.port, u] 25)) base t o.type 25 i _ 3 48 ht hi0 hi1 hi2 hi3 rfl (by decide) v R.length (R.flatMap rowV) (hown.1.alloc _)
    ⟨w.heap.size, 0, none⟩ 1 1 (#[Value.string N, Value.int .i64 q.port, u] : Array Value).toList rfl (by
      intro j x hj
      have hadd : (⟨w.heap.size, 0, none⟩ : Addr).add j = ⟨w.heap.size, j, none⟩ := by unfold Addr.add; split <;> simp_all
      rw [hadd, World.cell?_alloc_at _ _ _ _ rfl]
      simpa using hj) hone (by decide) (by simp only [maxLen]; omega) hbd (by simp; omega)
  have hB' : Below base wE (w.alloc (.cells #[.string N, .int .i64 q.port, u] 25)) := hB.alloc (by omega) _
  have hpr : ∀ (y : Value) (L : List Prm), RPrms w y L → (L ≠ [] → ∀ a n c, y = .slice (some a) n c → v.ownBlock ≠ some a.block) → RPrms w' y L := by
    intro y L hy hne
    have hs' := h3.size
    rw [World.size_alloc] at hs'
    refine hy.heap (by omega) fun hL a n c e hlt => ?_
    rw [h3.block a.block (by rw [World.size_alloc]; omega) (fun e2 => hne hL a n c e e2.symm), Below.heap_alloc _ _ _ hlt]
  have hbl : ∀ (y : Value) (L : List Prm), RPrms w y L → (L ≠ [] → ∀ a n c, y = .slice (some a) n c → v.ownBlock ≠ some a.block) → (L ≠ [] → ∀ a n c, y = .slice (some a) n c → v'.ownBlock ≠ some a.block) := by
    intro y L hy hne hL a n c e e2
    rcases h4 with h4 | h4
    · exact hne hL a n c e (h4 ▸ e2)
    · rw [h4, World.size_alloc] at e2
      injection e2 with e2
      rcases hy with ⟨_, hy⟩ | ⟨b, off, cap, hy1, _, _, hy3, _⟩
      · exact hL hy
      · rw [hy1] at e
        injection e with e _ _
        injection e with e
        rw [← e] at e2
        simp at e2; omega
  unfold Oper.wp execOp
  simp only [ho, resolve, invoke, builtin, Sem.run_bind, Sem.run_pure, Result.andThen_ok, List.map_toArray, List.map_cons, List.map_nil, hs, hx, hr]
  refine hk v' w' ⟨?_, ?_⟩ (hB'.grown h3 (by simp; omega) ?_)
  · have e : R.flatMap rowV ++ (#[Value.string N, Value.int .i64 q.port, u] : Array Value).toList = (R ++ [(q, u)]).flatMap rowV := by
      rw [List.flatMap_append]; simp [rowV, sv, ← hN]
    rw [← e, List.length_append]; exact h2
  · intro r hr'
    rcases List.mem_append.1 hr' with hr' | hr'
    · exact ⟨hpr _ _ (hown.2 r hr').1 (hown.2 r hr').2, hbl _ _ (hown.2 r hr').1 (hown.2 r hr').2⟩
    · rw [List.mem_singleton.1 hr']
      exact ⟨hpr _ _ hu hub, hbl _ _ hu hub⟩
  · intro k hk; exact (hown.1.lt k hk).1
theorem wpList_appV {wE w : World} {base : Nat} {t : TypeId} {v u : Value} {R : List (Hop × Value)} {s x : Operand} {N : ByteArray} {n : Int} (q : Hop) (hN : us N = q.host) (hn : n = q.port)
    (hgd : o.guard = none) (ho : o.op = .call { callee := .builtin .append, args := #[s, x], argTypes := #[t, t] })
    (ht : P.underlying t = some (.slice 25)) (hi : infoIs P 25 (.agg #[.string ⟨#[]⟩, .int .i64 0, .slice none 0 0]) 3 48)
    (hx : a.eval x = .slice (some ⟨w.heap.size, 0, none⟩) 1 1) (hs : a.eval s = v) (hown : Hops w base v R) (hu : RPrms w u q.ps) (hub : q.ps ≠ [] → ∀ a n c, u = .slice (some a) n c → v.ownBlock ≠ some a.block) (hB : Below base wE w) (hbase : base ≤ wE.heap.size)
    (hbd : (R.length + 1) * 48 ≤ 140737488355328)
    (hk : ∀ v' w', Hops w' base v' (R ++ [(q, u)]) → Below base wE w' → wpList P ops Q rest (a.put o.dst v') w') :
    wpList P ops Q (o :: rest) a (w.alloc (.cells #[.string N, .int .i64 n, u] 25)) :=
  wpList_plain hgd fun _ hK => op_appV q hN hn ho ht hi hx hs hown hu hub hB hbase hbd fun v' w' h1 h2 => hK _ _ (hk v' w' h1 h2)
end

end Go.Proofs.YtjohecbmeoalaaaDoor
