/-
  Steps of a region that draws its order: an append of a read row to a row of the call's own; the row that is laid of one string.
-/
import Derived.Test.YteiafgoigfehgaaDoorBase
namespace Go.Proofs.YteiafgoigfehgaaDoor
open Go.RowKit

section
variable {P : Program} {ops : Array Oper} {o : Oper} {a : Act} {Q : Exit → Act → World → Prop}
theorem run_append_zero {P : Program} (w : World) (t ty e : TypeId) (i : TypeInfo) (ht : P.underlying t = some (.slice e)) (hi : P.info? e = some i) (b : Option Addr) (n c : Nat) (hnc : n ≤ c) (ao : Option Addr) (d : Nat) :
    (Builtin.append_ #[t, t] ty #[.slice b n c, .slice ao 0 d]).run P w = .ok (.slice b n c) w := by
  cases b <;> cases ao <;> simp [Builtin.append_, run_underlying ht, sizeOf, typeInfo, hi, Builtin.lenOf, Builtin.firstCells, loadCells, loadCellsFrom, hnc, storeCells]
theorem step_wB2 {K : Act → World → Prop} {w : World} {E : Prop} {f : FuncId} {x y : Operand} {ts : Array TypeId} {v0 v1 v : Value}
    (hw : Region.wanted o (yielded ops a.tmps) = true) (ho : o.op = .call { callee := .value (.func f), args := #[x, y], argTypes := ts }) {fn : Func} (hf : P.funcs[f]? = some fn) (hnm : (fn.name == "runtime.NumGoroutine") = false) (hbd : fn.body.isNone = false)
    (hx : a.eval x = v0) (hy : a.eval y = v1) (hC : Calls P f #[v0, v1] w fun e w' => e = .returned v ∧ Below w.heap.size w w') (hK : ∀ w', Below w.heap.size w w' → K (a.put o.dst v) w') :
    if Region.wanted o (yielded ops a.tmps) = true then Oper.wp P o a w K Q else E := by
  rw [if_pos hw]
  unfold Oper.wp
  have h1 : fn.name ≠ "runtime.NumGoroutine" := by simpa using hnm
  have h2 : fn.body ≠ none := by intro e; rw [e] at hbd; cases hbd
  have hrun : (execOp a.eval o).run P w = .ok (.enter f #[v0, v1]) w := by
    subst hx hy
    simp [execOp, ho, resolve, Deferred.ofValue, invoke, callFunc, Act.eval, hf, h1, h2, Result.andThen]
  rw [hrun]
  refine hC.mono ?_
  rintro e w' ⟨rfl, hB⟩
  exact hK w' hB
/-- append of a row that is read; where it has none, all stands as it stood -/
theorem step_appR {K : Act → World → Prop} {E' : Prop} {wE w : World} {base : Nat} {e t : TypeId} {v vx : Value} {L M : List (List UInt8)} {s x : Operand}
    (hgd : o.guard = none) (ho : o.op = .call { callee := .builtin .append, args := #[s, x], argTypes := #[t, t] })
    (ht : P.underlying t = some (.slice e)) (hi : infoIs P e (.string ⟨#[]⟩) 1 16)
    (hx : a.eval x = vx) (hR : RStrs w vx M) (hs : a.eval s = v) (hown : Strs w base e v L) (hB : Below base wE w) (hbase : base ≤ wE.heap.size)
    (hbd : (L.length + M.length) * 16 ≤ 140737488355328)
    (h : ∀ v' w', Strs w' base e v' (L ++ M) → Below base wE w' → (∀ g ob, w.heap[g]? = some ob → v.ownBlock ≠ some g → w'.heap[g]? = some ob) → w.heap.size ≤ w'.heap.size → K (a.put o.dst v') w') :
    if Region.wanted o (yielded ops a.tmps) = true then Oper.wp P o a w K Q else E' := by
  refine step_of hgd ?_
  obtain ⟨i, hi0, hi1, hi2, hi3⟩ := info_parts hi
  rcases hR.cases with ⟨⟨ao, d, hv⟩, h0⟩ | ⟨b, off, cap, hv, hc1, hc2, hlt, hcells⟩
  · subst hv h0
    obtain ⟨bo, n, c, hv, hnc⟩ : ∃ bo n c, v = .slice bo n c ∧ n ≤ c := by
      rcases hown.2 with ⟨hv, _⟩ | ⟨g, c, cur, hv, _, _, hnc, _⟩
      · exact ⟨_, _, _, hv, Nat.le_refl _⟩
      · exact ⟨_, _, _, hv, hnc⟩
    have hrun := run_append_zero (P := P) w t o.type e i ht hi0 bo n c hnc ao d
    unfold Oper.wp execOp
    simp only [ho, resolve, invoke, builtin, Sem.run_bind, Sem.run_pure, Result.andThen_ok, List.map_toArray, List.map_cons, List.map_nil, hs, hx, hv, hrun]
    refine h _ _ ?_ hB (fun _ _ hg _ => hg) (Nat.le_refl _)
    rw [List.append_nil, ← hv]; exact hown
  · subst hv
    have hsz2 := hB.size
    refine wp_append_own _ s x t ho base e i (.string ⟨#[]⟩) 1 16 ht hi0 hi1 hi2 hi3 rfl (by decide) v L.length (L.map sv) hs hown ⟨b, off, none⟩ M.length cap (M.map sv) hx (by simp) ?_ ?_ (by simp only [maxLen]; omega) hbd (by omega) ?_
    · intro j u hu
      have hadd : (⟨b, off, none⟩ : Addr).add j = ⟨b, off + j, none⟩ := by unfold Addr.add; split <;> simp_all
      rw [hadd]
      have hj : j < M.length := by
        have := (List.getElem?_eq_some_iff.1 hu).1; simpa using this
      have hu' : u = .string (bs M[j]) := by
        have := (List.getElem?_eq_some_iff.1 hu).2; rw [← this]; simp [sv]
      rw [hu']; exact hcells j hj
    · intro u hu
      obtain ⟨m, _, rfl⟩ := List.mem_map.1 hu
      rfl
    · intro v' w' ho' hg _
      refine h v' w' ?_ (hB.grown hg (by omega) ?_) ?_ hg.size
      · unfold Strs; simpa using ho'
      · intro k hk; exact ((World.ownsRow.lt hown) k hk).1
      · intro g ob hgo hne
        rw [hg.block g (Array.getElem?_eq_some_iff.1 hgo).1 (fun e => hne e.symm)]; exact hgo
end

end Go.Proofs.YteiafgoigfehgaaDoor
