/-
  Slices of headers, and append of headers.
-/
import Derived.Test.YtgkilllbkljibaaGreatDoorRpn
namespace Go.Proofs.YtgkilllbkljibaaGreatDoor
set_option linter.unusedSimpArgs false
set_option linter.unusedVariables false
open Go.RowKit Go.Sort

section
variable {P : Program} {ops : Array Oper} {rest : List Oper} {o : Oper} {a : Act} {Q : Exit → Act → World → Prop} {w : World} {g : Nat} {t : TypeId}
/-- append of headers that are read (or of none) to a row of the call's own -/
theorem op_appHs {K : Act → World → Prop} {wE w : World} {base : Nat} {t : TypeId} {v vx : Value} {L M : List Hdr} {s x : Operand}
    (ho : o.op = .call { callee := .builtin .append, args := #[s, x], argTypes := #[t, t] })
    (ht : P.underlying t = some (.slice 46)) (hi : infoIs P 46 (.agg #[.string ⟨#[]⟩, .string ⟨#[]⟩]) 2 32)
    (hx : a.eval x = vx) (hR : RHdrs w vx M) (hs : a.eval s = v) (hown : Hdrs w base v L) (hB : Below base wE w) (hbase : base ≤ wE.heap.size)
    (hbd : (L.length + M.length) * 32 ≤ 140737488355328)
    (h : ∀ v' w', Hdrs w' base v' (L ++ M) → Below base wE w' → K (a.put o.dst v') w') :
    o.wp P a w K Q := by
  obtain ⟨i, hi0, hi1, hi2, hi3⟩ := info_parts hi
  rcases hR with ⟨⟨ao, c, hv⟩, h0⟩ | ⟨b, off, cap, hv, hc1, hc2, hlt, hcells⟩
  · subst h0
    have hrun : (Builtin.append_ #[t, t] o.type #[v, .slice ao 0 c]).run P w = .ok v w := by
      rcases hown.2 with ⟨rfl, _⟩ | ⟨g, cap, cur, rfl, _, hgg, hle, _⟩
      · cases ao <;> simp [Builtin.append_, run_underlying ht, sizeOf, typeInfo, hi0, Builtin.lenOf, Builtin.firstCells, loadCells, loadCellsFrom]
      · cases ao with
        | some ad =>
          have := run_append_room_cells (P := P) w t o.type 46 i ht hi0 g 0 L.length cap ad 0 c [] (by simp) (fun j u h => by simp at h) (fun u h => by cases h) hle (fun j h => by simp at h) (fun j h => by simp at h)
          rw [this]
          first | rfl | simp [World.setCells]
        | none => simp [Builtin.append_, run_underlying ht, sizeOf, typeInfo, hi0, Builtin.lenOf, hle, Builtin.firstCells, storeCells, Addr.add_lit]
    unfold Oper.wp
    simp [execOp, ho, resolve, invoke, builtin, hs, hx, hv, hrun, Result.andThen]
    exact h _ _ (by rw [List.append_nil]; exact hown) hB
  subst hv
  have hsz2 := hB.size
  refine wp_append_own _ s x t ho base 46 i _ 2 32 ht hi0 hi1 hi2 hi3 rfl (by decide) v L.length (L.flatMap Hdr.cells) hs hown ⟨b, off, none⟩ M.length cap (M.flatMap Hdr.cells) hx (flatH_len M) ?_ ?_ (by simp only [maxLen]; omega) hbd (by omega) ?_
  · intro j u hu
    have hadd : (⟨b, off, none⟩ : Addr).add j = ⟨b, off + j, none⟩ := by unfold Addr.add; split <;> simp_all
    rw [hadd]
    have hj0 : j < M.length * 2 := by rw [← flatH_len]; exact (List.getElem?_eq_some_iff.1 hu).1
    have hj : j / 2 < M.length := by omega
    have e := flat_atH M (j / 2) hj (j % 2) (Nat.mod_lt _ (by decide))
    rw [show j / 2 * 2 + j % 2 = j by omega, hu] at e
    obtain ⟨h0, h1⟩ := hcells (j / 2) hj
    have hr : j % 2 = 0 ∨ j % 2 = 1 := by omega
    rcases hr with hr | hr <;> rw [hr] at e <;> simp [Hdr.cells] at e <;> rw [e]
    · rw [show off + j = off + j / 2 * 2 by omega]; exact h0
    · rw [show off + j = off + j / 2 * 2 + 1 by omega]; exact h1
  · intro u hu
    obtain ⟨p, _, hu⟩ := List.mem_flatMap.1 hu
    simp only [Hdr.cells, sv, List.mem_cons, List.not_mem_nil, or_false] at hu
    rcases hu with rfl | rfl <;> rfl
  · intro v' w' ho' hg _
    refine h v' w' ?_ (hB.grown hg (by omega) ?_)
    · unfold Hdrs; simpa using ho'
    · intro k hk; exact ((World.ownsRow.lt hown) k hk).1
/-- a struct loaded whole by an operation behind a guard that is met -/
theorem wpList_loadG {g : Nat} {T : TypeId} {fs : Array Field} {vs : Array Value} {p : Operand}
    (hw : Region.wanted o (yielded ops a.tmps) = true) (ho : o.op = .load T p) (hp : a.eval p = .pointer (some ⟨g, 0, none⟩)) (hA : P.underlying T = some (.struct fs)) (hC : (P.info? T).map (·.size) = some vs.size)
    (hb : Blk w g t vs) (h : wpList P ops Q rest (a.put o.dst (.agg vs)) w) : wpList P ops Q (o :: rest) a w := by
  refine wpList_step fun K hK => ?_
  rw [if_pos hw]
  have hl := loadVar_blk hA hC hb
  have hex : (execOp a.eval o).run P w = .ok (.value (.agg vs)) w := by
    simp [execOp, ho, hp, Instr.loadAt, Instr.sureAddr, hl, Result.andThen]
  unfold Oper.wp
  rw [hex]
  exact hK _ _ h
end
theorem RHdrs.cap {w : World} {ao : Option Addr} {n cap : Nat} {L : List Hdr} (h : RHdrs w (.slice ao n cap) L) (h0 : 0 < L.length) : L.length ≤ cap := by
  rcases h with ⟨_, rfl⟩ | ⟨b, off, c, e, h1, h2, h3, h4⟩
  · simp at h0
  · injection e with e1 e2 e3; omega
theorem RHdrs.takeS {w : World} {ao : Option Addr} {n cap : Nat} {L : List Hdr} (h : RHdrs w (.slice ao n cap) L) (k : Nat) (hk : k ≤ n) : RHdrs w (.slice ao k cap) (L.take k) := by
  rcases h with ⟨⟨a, c, e⟩, rfl⟩ | ⟨b, off, c, e, h1, h2, h3, h4⟩
  · injection e with e1 e2 e3
    have : k = 0 := by omega
    subst this
    exact .inl ⟨⟨_, _, rfl⟩, rfl⟩
  · injection e with e1 e2 e3
    subst e1 e3
    rcases Nat.eq_zero_or_pos k with h0 | h0
    · subst h0
      exact .inl ⟨⟨_, _, rfl⟩, by simp⟩
    · refine .inr ⟨b, off, cap, by rw [List.length_take, Nat.min_eq_left (by omega)], by rw [List.length_take]; omega, h2, h3, fun j hj => ?_⟩
      rw [List.length_take] at hj
      rw [List.getElem_take]
      exact h4 j (by omega)

theorem RHdrs.dropS {w : World} {b off n cap : Nat} {L : List Hdr} (h : RHdrs w (.slice (some ⟨b, off, none⟩) n cap) L) (hn : n = L.length) (k : Nat) (hk : k ≤ n) : RHdrs w (.slice (some ⟨b, off + k * 2, none⟩) (n - k) (cap - k)) (L.drop k) := by
  rcases h with ⟨⟨a, c, e⟩, rfl⟩ | ⟨b', off', c, e, h1, h2, h3, h4⟩
  · injection e with e1 e2 e3
    have : n - k = 0 := by omega
    rw [this]
    exact .inl ⟨⟨_, _, rfl⟩, by simp⟩
  · injection e with e1 e2 e3
    injection e1 with e1
    injection e1 with e1 e5 _
    subst e1 e5 e3
    refine .inr ⟨b, off + k * 2, cap - k, by rw [List.length_drop, hn], by rw [List.length_drop]; omega, by omega, h3, fun j hj => ?_⟩
    have hj' : k + j < L.length := by rw [List.length_drop] at hj; omega
    obtain ⟨x0, x1⟩ := h4 (k + j) hj'
    rw [List.getElem_drop, show off + k * 2 + j * 2 = off + (k + j) * 2 by omega]
    exact ⟨x0, x1⟩
theorem RHdrs.slicedS {w : World} {ao : Option Addr} {n cap : Nat} {L : List Hdr} (h : RHdrs w (.slice ao n cap) L) (hn : n = L.length) (k : Nat) (hk : k ≤ n) : RHdrs w (.slice (if cap = k then ao else ao.map (·.add (k * 2))) (n - k) (cap - k)) (L.drop k) := by
  rcases h with ⟨⟨a, c, e⟩, rfl⟩ | ⟨b, off, c, e, h1, h2, h3, h4⟩
  · injection e with e1 e2 e3
    have : n - k = 0 := by omega
    rw [this]
    exact .inl ⟨⟨_, _, rfl⟩, by simp⟩
  · injection e with e1 e2 e3
    subst e1 e3
    by_cases hc : cap = k
    · have h0 : n - k = 0 := by omega
      rw [h0]
      exact .inl ⟨⟨_, _, rfl⟩, by rw [List.drop_eq_nil_iff]; omega⟩
    · rw [if_neg hc]
      have h' : RHdrs w (.slice (some ⟨b, off, none⟩) n cap) L := .inr ⟨b, off, cap, by rw [hn], h1, h2, h3, h4⟩
      have := h'.dropS hn k hk
      rw [← add_cell] at this
      exact this
theorem RHdrs.one (V : ByteArray) (w : World) : RHdrs (w.alloc (.cells #[.string ⟨#[88, 45, 79, 116, 104, 101, 114]⟩, .string V] 46)) (.slice (some ⟨w.heap.size, 0, none⟩) 1 1) [⟨nOther, us V⟩] := by
  have b := Blk.new w 46 #[.string ⟨#[88, 45, 79, 116, 104, 101, 114]⟩, .string V]
  refine .inr ⟨w.heap.size, 0, 1, rfl, Nat.le_refl _, by decide, b.lt, fun j hj => ?_⟩
  obtain rfl : j = 0 := by simp at hj; omega
  exact ⟨boxedCell b 0, (boxedCell b 1).trans (by simp [sv, bs_us])⟩
theorem Hdrs.emp {w : World} {g base : Nat} (hb : Blk w g 46 #[]) (h : base ≤ g) : Hdrs w base (.slice (some ⟨g, 0, none⟩) 0 0) [] := by
  unfold Hdrs
  refine ⟨rfl, .inr ⟨g, 0, #[], rfl, h, hb, Nat.le_refl _, by decide, rfl, rfl⟩⟩
theorem hdrs_toN {w : World} {base : Nat} {v : Value} {L : List Hdr} (h : Hdrs w base v L) : ∃ n ao cap, v = .slice ao n cap := by
  obtain ⟨ao, cap, e, _⟩ := h.len
  exact ⟨_, ao, cap, e⟩
/-- memory in ReplyOrder: the message, the longer message -/
structure OSt (w : World) (msg : Array Value) (gn : Nat) (ns : Array Value) (wr : World) : Prop where
  bm : Blk wr w.heap.size 24 msg
  bn : Blk wr gn 24 ns
  hB : Below w.heap.size w wr
  l1 : w.heap.size < gn
theorem OSt.call {w wr w' : World} {msg ns : Array Value} {gn : Nat} (h : OSt w msg gn ns wr) (hC : Below wr.heap.size wr w') : OSt w msg gn ns w' :=
  ⟨h.bm.call hC, h.bn.call hC, h.hB.trans (hC.mono h.hB.size), h.l1⟩
theorem OSt.low {w wr w' : World} {msg ns : Array Value} {gn : Nat} (h : OSt w msg gn ns wr) (hC : Below (gn + 1) wr w') : OSt w msg gn ns w' :=
  ⟨(hC.block _ (by have := h.l1; omega)).trans h.bm, (hC.block _ (by omega)).trans h.bn, h.hB.trans (hC.mono (by have := h.l1; omega)), h.l1⟩
theorem OSt.store {w wr w' : World} {msg ns ns' : Array Value} {gn : Nat} (h : OSt w msg gn ns wr) (hb : Blk w' gn 24 ns') (hf : ∀ k, k ≠ gn → w'.heap[k]? = wr.heap[k]?) (hl : ∀ B, B ≤ gn → Below B wr w') : OSt w msg gn ns' w' :=
  ⟨(hf _ (by have := h.l1; omega)).trans h.bm, hb, h.hB.trans (hl _ (Nat.le_of_lt h.l1)), h.l1⟩
theorem OSt.drew {w wr : World} {msg ns : Array Value} {gn : Nat} (h : OSt w msg gn ns wr) : OSt w msg gn ns wr.drew := ⟨h.bm, h.bn, zDrew h.hB, h.l1⟩
theorem mapsto_ins (H : List Hdr) (K : Nat) (V : List UInt8) : H.take K ++ [⟨nOther, V⟩] ++ H.drop K = H.take K ++ ⟨nOther, V⟩ :: H.drop K := by simp

end Go.Proofs.YtgkilllbkljibaaGreatDoor
