/-
  Publications in rows of the call's own; append of a row that lies anywhere.
-/
import Derived.Test.YtbljmjbialinkaaDoorLcx
namespace Go.Proofs.YtbljmjbialinkaaDoor
set_option linter.unusedSimpArgs false
set_option linter.unusedVariables false
open Go.RowKit Go.Sort Go.Maps

section
variable {P : Program} {ops : Array Oper} {rest : List Oper} {o : Oper} {a : Act} {Q : Exit → Act → World → Prop}
/-- append of rows that lie somewhere, to a row of the call's own -/
theorem op_appG {K : Act → World → Prop} {w : World} {base : Nat} {e t : TypeId} {z : Value} {size bytes : Nat} {v : Value} {n : Nat} {xs : List Value} {s x : Operand} {news : List Value} {ad : Addr} {m c : Nat}
    (ho : o.op = .call { callee := .builtin .append, args := #[s, x], argTypes := #[t, t] })
    (ht : P.underlying t = some (.slice e)) (hi : infoIs P e z size bytes) (hzs : z.cells.size = size) (hsz : 0 < size)
    (hx : a.eval x = .slice (some ad) m c) (hs : a.eval s = v) (hown : w.ownsRow base e size v n xs) (hm0 : 0 < m)
    (hm : news.length = m * size) (hnews : ∀ j u, news[j]? = some u → w.cell? (ad.add j) = some u) (h1 : ∀ u ∈ news, u.oneCell' = true) (hbytes : 0 < bytes) (hbd : (n + m) * bytes ≤ 140737488355328) (hbase : base ≤ w.heap.size)
    (h : ∀ v' w', w'.ownsRow base e size v' (n + m) (xs ++ news) → w.grownBy w' v.ownBlock → (v'.ownBlock = v.ownBlock ∨ v'.ownBlock = some w.heap.size) → K (a.put o.dst v') w') :
    o.wp P a w K Q := by
  obtain ⟨i, hi0, hi1, hi2, hi3⟩ := info_parts hi
  have hnm : n + m ≤ (n + m) * bytes := Nat.le_mul_of_pos_right _ hbytes
  obtain ⟨v', w', hr, h2, h3, h4⟩ := run_app_blkM (P := P) w base t o.type e i z size bytes ht hi0 hi1 hi2 hi3 hzs hsz v n xs hown ad m c news hm hnews h1 hm0 (by simp only [maxLen]; omega) hbd hbase
  unfold Oper.wp execOp
  simp only [ho, resolve, invoke, builtin, Sem.run_bind, Sem.run_pure, Result.andThen_ok, List.map_toArray, List.map_cons, List.map_nil, hs, hx, hr]
  exact h v' w' h2 h3 h4
end
theorem blk_grownO {w w' : World} {g : Nat} {t : TypeId} {cs : Array Value} {row : Option Nat} (h : Blk w g t cs) (hg : w.grownBy w' row) (hne : some g ≠ row) : Blk w' g t cs := (hg.block g h.lt hne).trans h
theorem infoPub : infoIs Tryd.prog 27 (.agg #[.int .i64 0, .string ⟨#[]⟩, .string ⟨#[]⟩, .int .i64 0, .string ⟨#[]⟩, .slice none 0 0, .slice none 0 0]) 7 112 := by unfold infoIs; kernel_rfl
theorem PubCs.below {w w' : World} {B : Nat} {cs : List Value} {p : Pb} (h : PubCs w cs p) (hB : Below B w w') (hs : w.heap.size ≤ B) : PubCs w' cs p := by
  obtain ⟨S, T, n, u1, u2, e, h1, h2⟩ := h
  exact ⟨S, T, n, u1, u2, e, h1.below hB hs, RRow.below h2 hB hs⟩
theorem PubCs.len {w : World} {cs : List Value} {p : Pb} (h : PubCs w cs p) : cs.length = 7 := by
  obtain ⟨S, T, n, u1, u2, rfl, _⟩ := h; rfl
theorem PubCs.one {w : World} {cs : List Value} {p : Pb} (h : PubCs w cs p) : ∀ u ∈ cs, u.oneCell' = true := by
  obtain ⟨S, T, n, u1, u2, rfl, h1, h2⟩ := h
  obtain ⟨_, _, rfl, _⟩ := h1.cap
  obtain ⟨_, _, rfl, _⟩ := h2.cap
  intro u hu
  simp at hu
  rcases hu with rfl | rfl | rfl | rfl | rfl | rfl | rfl <;> rfl
theorem PubAt.cs {w : World} {b o : Nat} {p : Pb} (h : PubAt w b o p) : ∃ cs : List Value, PubCs w cs p ∧ ∀ k, k < 7 → w.cell? ⟨b, o + k, none⟩ = cs[k]? := by
  obtain ⟨a0, ⟨S1, a1⟩, ⟨S2, a2⟩, ⟨n3, a3⟩, a4, u1, u2, a5, a6, k1, k2⟩ := h
  refine ⟨[.int .i64 p.num, .string S1, .string S2, .int .i64 n3, sv p.doc.ent, u1, u2], ⟨S1, S2, n3, u1, u2, rfl, k1, k2⟩, fun k hk => ?_⟩
  match k, hk with
  | 0, _ => exact a0
  | 1, _ => exact a1
  | 2, _ => exact a2
  | 3, _ => exact a3
  | 4, _ => exact a4
  | 5, _ => exact a5
  | 6, _ => exact a6
/-- rows of publications, cell by cell -/
def PubRows (w : World) (xs : List Value) (L : List Pb) : Prop := ∃ M : List (List Value), xs = M.flatten ∧ M.length = L.length ∧ ∀ j (h : j < M.length) (h2 : j < L.length), PubCs w M[j] L[j]
theorem PubRows.below {w w' : World} {B : Nat} {xs : List Value} {L : List Pb} (h : PubRows w xs L) (hB : Below B w w') (hs : w.heap.size ≤ B) : PubRows w' xs L := by
  obtain ⟨M, h1, h2, h3⟩ := h
  exact ⟨M, h1, h2, fun j a b => (h3 j a b).below hB hs⟩
theorem flatten_at : ∀ (M : List (List Value)), (∀ c ∈ M, c.length = 7) → ∀ (j : Nat) (hj : j < M.length) (k : Nat), k < 7 → M.flatten[j * 7 + k]? = M[j][k]?
  | c :: r, h, 0, _, k, hk => by
    rw [List.flatten_cons, Nat.zero_mul, Nat.zero_add, List.getElem?_append_left (by rw [h c (List.mem_cons_self ..)]; exact hk)]; rfl
  | c :: r, h, j + 1, hj, k, hk => by
    have hc := h c (List.mem_cons_self ..)
    rw [List.flatten_cons, List.getElem?_append_right (by omega), hc, show (j + 1) * 7 + k - 7 = j * 7 + k by omega]
    exact flatten_at r (fun d hd => h d (List.mem_cons_of_mem _ hd)) j (by simpa using hj) k hk
theorem flatten_len : ∀ (M : List (List Value)), (∀ c ∈ M, c.length = 7) → M.flatten.length = M.length * 7
  | [], _ => rfl
  | c :: r, h => by
    rw [List.flatten_cons, List.length_append, h c (List.mem_cons_self ..), flatten_len r (fun d hd => h d (List.mem_cons_of_mem _ hd)), List.length_cons]; omega
theorem PubRows.seven {w : World} {M : List (List Value)} {L : List Pb} (h2 : M.length = L.length) (h3 : ∀ j (h : j < M.length) (h2 : j < L.length), PubCs w M[j] L[j]) : ∀ c ∈ M, c.length = 7 := by
  intro c hc
  obtain ⟨j, hj, rfl⟩ := List.getElem_of_mem hc
  exact (h3 j hj (by omega)).len
theorem PubRows.len {w : World} {xs : List Value} {L : List Pb} (h : PubRows w xs L) : xs.length = L.length * 7 := by
  obtain ⟨M, rfl, h2, h3⟩ := h
  rw [flatten_len M (PubRows.seven h2 h3), h2]
theorem PubRows.one {w : World} {xs : List Value} {L : List Pb} (h : PubRows w xs L) : ∀ u ∈ xs, u.oneCell' = true := by
  obtain ⟨M, rfl, h2, h3⟩ := h
  intro u hu
  obtain ⟨c, hc, hu⟩ := List.mem_flatten.1 hu
  obtain ⟨j, hj, rfl⟩ := List.getElem_of_mem hc
  exact (h3 j hj (by omega)).one u hu
theorem PubRows.snoc {w : World} {xs cs : List Value} {L : List Pb} {p : Pb} (h : PubRows w xs L) (hp : PubCs w cs p) : PubRows w (xs ++ cs) (L ++ [p]) := by
  obtain ⟨M, rfl, h2, h3⟩ := h
  refine ⟨M ++ [cs], by simp, by simp [h2], fun j a b => ?_⟩
  rw [List.length_append, List.length_singleton] at a
  by_cases hj : j < M.length
  · rw [List.getElem_append_left hj, List.getElem_append_left (by omega)]
    exact h3 j hj (by omega)
  · have e : j = M.length := by omega
    subst e
    rw [List.getElem_concat_length rfl, List.getElem_concat_length h2]
    exact hp
theorem RPubs.rows {w : World} {v : Value} {L : List Pb} (h : RPubs w v L) : ∃ xs, RRow w v L.length xs ∧ PubRows w xs L := by
  rcases h with ⟨h1, rfl⟩ | ⟨b, off, cap, h1, h2, h2', h3, h4⟩
  · exact ⟨[], .inl ⟨h1, rfl, rfl⟩, [], rfl, rfl, fun j h _ => absurd h (Nat.not_lt_zero _)⟩
  · obtain ⟨M, hM, hP⟩ := list_of_eachB (fun j (cs : List Value) => ∀ hj : j < L.length, PubCs w cs L[j] ∧ ∀ k, k < 7 → w.cell? ⟨b, off + j * 7 + k, none⟩ = cs[k]?) L.length (fun i hi => by
      obtain ⟨cs, c1, c2⟩ := (h4 i hi).cs
      exact ⟨cs, fun _ => ⟨c1, c2⟩⟩)
    have h3' : ∀ j (h : j < M.length) (h2 : j < L.length), PubCs w M[j] L[j] := fun j a b => (hP j a b).1
    have h7 := PubRows.seven hM h3'
    refine ⟨M.flatten, .inr ⟨b, off, cap, h1, h2, h2', h3, fun j u hj => ?_⟩, M, rfl, hM, h3'⟩
    have hjl : j < M.length * 7 := by have := (List.getElem?_eq_some_iff.1 hj).1; rwa [flatten_len M h7] at this
    have hq : j / 7 < M.length := by omega
    have e : j = j / 7 * 7 + j % 7 := by omega
    have hr : j % 7 < 7 := Nat.mod_lt _ (by decide)
    rw [e, flatten_at M h7 (j / 7) hq (j % 7) hr] at hj
    have := (hP (j / 7) hq (by omega)).2 (j % 7) hr
    rw [show off + j = off + j / 7 * 7 + j % 7 by omega, this, hj]
theorem RPubs.of_rows {w : World} {v : Value} {L : List Pb} {xs : List Value} (h : RRow w v L.length xs) (hr : PubRows w xs L) : RPubs w v L := by
  obtain ⟨M, rfl, h2, h3⟩ := hr
  rcases h with ⟨h1, h0, _⟩ | ⟨b, off, cap, h1, hn, hc, hb, h4⟩
  · exact .inl ⟨h1, List.length_eq_zero_iff.1 h0⟩
  · refine .inr ⟨b, off, cap, h1, hn, hc, hb, fun j hj => ?_⟩
    refine (h3 j (by omega) hj).at (fun k hk => ?_)
    have e := flatten_at M (PubRows.seven h2 h3) j (by omega) k hk
    have hl : k < M[j].length := by rw [(h3 j (by omega) hj).len]; exact hk
    rw [List.getElem?_eq_getElem hl] at e
    rw [Nat.add_assoc, h4 _ _ e, List.getElem?_eq_getElem hl]

/-- a slice that does not lie in a given block, or is empty -/
def Offs {α : Type} (g : Nat) (v : Value) (L : List α) : Prop := L = [] ∨ ∀ b off p n c, v = .slice (some ⟨b, off, p⟩) n c → b ≠ g
theorem Offs.fresh {α : Type} {g B : Nat} {v : Value} {L : List α} (h : Fresh B v) (hg : g < B) : Offs g v L := .inr (fun b off p n c e => by
  have := h _ _ _ e
  dsimp only at this
  omega)
theorem RRow.off0 {w : World} {v : Value} {n g : Nat} {xs : List Value} (h : RRow w v n xs) (hn : n ≠ 0) (hg : w.heap.size ≤ g) : ∀ b off p n c, v = .slice (some ⟨b, off, p⟩) n c → b ≠ g := by
  intro b off p m c e
  rcases h with ⟨_, h0, _⟩ | ⟨b', off', cap, h1, _, _, h3, _⟩
  · exact absurd h0 hn
  · rw [h1] at e
    injection e with e _ _
    injection e with e
    injection e with e _ _
    omega
theorem RRow.offT {w : World} {v : Value} {g : Nat} {L : List Tup} (h : RTups w v L) (hg : w.heap.size ≤ g) : Offs g v L := by
  by_cases hL : L = []
  · exact .inl hL
  · exact .inr (RRow.off0 h (fun e => hL (List.length_eq_zero_iff.1 e)) hg)
theorem RRow.offS {w : World} {v : Value} {g : Nat} {L : List (List UInt8)} (h : RStrs w v L) (hg : w.heap.size ≤ g) : Offs g v L := by
  by_cases hL : L = []
  · exact .inl hL
  · exact .inr (RRow.off0 h (fun e => hL (List.length_eq_zero_iff.1 e)) hg)
theorem RRow.rowX {w : World} {v : Value} {n g : Nat} {xs : List Value} (h : RRow w v n xs) (hf : ∀ b off p n c, v = .slice (some ⟨b, off, p⟩) n c → b ≠ g) (vs : Array Value) : RRow (w.setRow g vs) v n xs := by
  rcases h with h | ⟨b, off, cap, h1, h2, h2', h3, h4⟩
  · exact .inl h
  · have hb : b ≠ g := hf _ _ _ _ _ h1
    refine .inr ⟨b, off, cap, h1, h2, h2', by rw [setRow_size]; exact h3, fun j u hj => ?_⟩
    rw [World.cell?_of_block (w := w) (a := ⟨b, off + j, none⟩) (setRow_far w g vs b hb)]
    exact h4 j u hj
theorem RRow.rowT {w : World} {v : Value} {g : Nat} {L : List Tup} {vs : Array Value} (h : RTups w v L) (ho : Offs g v L) : RTups (w.setRow g vs) v L := by
  rcases ho with rfl | ho
  · obtain ⟨ao, cap, e, _⟩ := h.form
    exact .inl ⟨⟨ao, cap, e⟩, rfl, rfl⟩
  · exact RRow.rowX h ho vs
theorem RRow.rowS {w : World} {v : Value} {g : Nat} {L : List (List UInt8)} {vs : Array Value} (h : RStrs w v L) (ho : Offs g v L) : RStrs (w.setRow g vs) v L := by
  rcases ho with rfl | ho
  · obtain ⟨ao, cap, e, _⟩ := RStrs.formT h
    exact .inl ⟨⟨ao, cap, e⟩, rfl, rfl⟩
  · exact RRow.rowX h ho vs

end Go.Proofs.YtbljmjbialinkaaDoor
