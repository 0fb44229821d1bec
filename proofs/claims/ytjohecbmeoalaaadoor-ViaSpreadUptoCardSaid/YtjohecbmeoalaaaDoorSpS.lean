/-
  Steps of the law ViaSpread: rows of headers and texts beside each other.
-/
import Derived.Test.YtjohecbmeoalaaaDoorVal
import Derived.Test.YtjohecbmeoalaaaDoorSpr
namespace Go.Proofs.YtjohecbmeoalaaaDoor
open Go.RowKit Go.Sort

def viaH (v : Hop) : Hdr := ⟨nVia, textV v⟩
theorem Kept.blk {w w' : World} {e t : TypeId} {g : Nat} {cs : Array Value} (hk : Kept e w w') (h : Blk w g t cs) (hne : t ≠ e) : Blk w' g t cs := hk _ _ _ _ h hne
theorem own_set {w : World} {base g i n size : Nat} {e t : TypeId} {v x : Value} {xs : List Value} {cs : Array Value} (h : w.ownsRow base e size v n xs) (hb : Blk w g t cs) (hne : t ≠ e) : (w.setCell ⟨g, i, none⟩ x).ownsRow base e size v n xs := by
  refine ⟨h.1, ?_⟩
  rcases h.2 with hn | ⟨g', cap, cur, rfl, h1, hgg, rest⟩
  · exact .inl hn
  · refine .inr ⟨g', cap, cur, rfl, h1, ?_, rest⟩
    have hg : g' ≠ g := by
      intro e
      subst e
      have h2 : w.heap[g']? = some (.cells cs t (0, 0)) := hb
      rw [hgg] at h2
      injection h2 with h2
      injection h2 with _ h2
      exact hne h2.symm
    exact (Below.heap_setCell w ⟨g, i, none⟩ x g' hg).trans hgg
section
variable {P : Program} {ops : Array Oper} {rest : List Oper} {o : Oper} {a : Act} {Q : Exit → Act → World → Prop}
theorem op_appKH {K : Act → World → Prop} {wE w : World} {base : Nat} {t : TypeId} {v : Value} {L : List Hdr} {s x : Operand} {N V : ByteArray} (p : Hdr) (hN : us N = p.name) (hV : us V = p.value)
    (ho : o.op = .call { callee := .builtin .append, args := #[s, x], argTypes := #[t, t] })
    (ht : P.underlying t = some (.slice 37)) (hi : infoIs P 37 (.agg #[.string ⟨#[]⟩, .string ⟨#[]⟩]) 2 32)
    (hx : a.eval x = .slice (some ⟨w.heap.size, 0, none⟩) 1 1) (hs : a.eval s = v) (hown : Hdrs w base v L) (hB : Below base wE w) (hbase : base ≤ wE.heap.size)
    (hbd : (L.length + 1) * 32 ≤ 140737488355328)
    (hk : ∀ v' w', Hdrs w' base v' (L ++ [p]) → Below base wE w' → Kept 37 w w' → K (a.put o.dst v') w') :
    o.wp P a (w.alloc (.cells #[.string N, .string V] 37)) K Q := by
  refine op_appK ho ht hi rfl (by decide) hx hs hown hB hbase rfl (by simp; exact ⟨rfl, rfl⟩) (by decide) hbd ?_
  intro v' w' h1 h2 h3
  refine hk v' w' ?_ h2 h3
  unfold Hdrs
  have e : L.flatMap Hdr.cells ++ #[Value.string N, Value.string V].toList = (L ++ [p]).flatMap Hdr.cells := by
    rw [List.flatMap_append]; simp [Hdr.cells, sv, ← hN, ← hV]
  rw [← e, List.length_append]; exact h1
theorem wpList_appKH {wE w : World} {base : Nat} {t : TypeId} {v : Value} {L : List Hdr} {s x : Operand} {N V : ByteArray} (p : Hdr) (hN : us N = p.name) (hV : us V = p.value)
    (hgd : o.guard = none) (ho : o.op = .call { callee := .builtin .append, args := #[s, x], argTypes := #[t, t] })
    (ht : P.underlying t = some (.slice 37)) (hi : infoIs P 37 (.agg #[.string ⟨#[]⟩, .string ⟨#[]⟩]) 2 32)
    (hx : a.eval x = .slice (some ⟨w.heap.size, 0, none⟩) 1 1) (hs : a.eval s = v) (hown : Hdrs w base v L) (hB : Below base wE w) (hbase : base ≤ wE.heap.size)
    (hbd : (L.length + 1) * 32 ≤ 140737488355328)
    (hk : ∀ v' w', Hdrs w' base v' (L ++ [p]) → Below base wE w' → Kept 37 w w' → wpList P ops Q rest (a.put o.dst v') w') :
    wpList P ops Q (o :: rest) a (w.alloc (.cells #[.string N, .string V] 37)) :=
  wpList_plain hgd fun _ hK => op_appKH p hN hV ho ht hi hx hs hown hB hbase hbd fun v' w' h1 h2 h3 => hK _ _ (hk v' w' h1 h2 h3)
/-- a call of two arguments, as an operation of a region that draws its order -/
theorem step_wB2 {K : Act → World → Prop} {w : World} {E : Prop} {f : FuncId} {x y : Operand} {ts : Array TypeId} {v0 v1 v : Value}
    (hw : Region.wanted o (yielded ops a.tmps) = true) (ho : o.op = .call { callee := .value (.func f), args := #[x, y], argTypes := ts }) {fn : Func} (hf : P.funcs[f]? = some fn) (hnm : (fn.name == "runtime.NumGoroutine") = false) (hbd : fn.body.isNone = false)
    (hx : a.eval x = v0) (hy : a.eval y = v1) (hC : Calls P f #[v0, v1] w fun e w' => e = .returned v ∧ Below w.heap.size w w') (hK : ∀ w', Below w.heap.size w w' → K (a.put o.dst v) w') :
    if Region.wanted o (yielded ops a.tmps) = true then Oper.wp P o a w K Q else E := by
  rw [if_pos hw]
  unfold Oper.wp
  have h1 : fn.name ≠ "runtime.NumGoroutine" := by simpa using hnm
  have h2 : fn.body ≠ none := by intro e; rw [e] at hbd; cases hbd
  have hrun : (execOp a.eval o).run P w = .ok (.enter f #[v0, v1]) w := by
    subst hx hy
    simp [execOp, ho, resolve, Deferred.ofValue, invoke, callFunc, Act.eval, hf, h1, h2, Result.andThen]
  rw [hrun]
  refine hC.mono ?_
  rintro e w' ⟨rfl, hR⟩
  exact hK w' hR
end
theorem nmGl : (Tryd.f24.name == "runtime.NumGoroutine") = false := by kernel_rfl
theorem bdGl : Tryd.f24.body.isNone = false := by kernel_rfl
theorem any_worldV {R : World → Prop} {W : World} (F : World → Prop) (hF : F W) (h : ∀ w', F w' → R w') : R W := h W hF
theorem RStrs.takeK {w : World} {ao : Option Addr} {n cap : Nat} {L : List (List UInt8)} (h : RStrs w (.slice ao n cap) L) (k : Nat) (hk : k ≤ n) : RStrs w (.slice ao k cap) (L.take k) := by
  rcases h.cases with ⟨⟨a, c, e⟩, rfl⟩ | ⟨b, off, c, e, h1, h2, h3, h4⟩
  · injection e with e1 e2 e3
    have : k = 0 := by omega
    subst this
    exact .inl ⟨⟨_, _, rfl⟩, rfl, rfl⟩
  · injection e with e1 e2 e3
    subst e1 e3
    refine .inr ⟨b, off, cap, by rw [List.length_take, Nat.min_eq_left (by omega)], by rw [List.length_take]; omega, h2, h3, fun j u hj => ?_⟩
    have hj' : j < (L.take k).length := by have := (List.getElem?_eq_some_iff.1 hj).1; simpa using this
    rw [List.length_take] at hj'
    rw [h4 j (by omega), ← hj, List.getElem?_map, List.getElem?_take_of_lt (by omega), List.getElem?_eq_getElem (by omega)]
    rfl
theorem RStrs.dropK {w : World} {b off n cap : Nat} {L : List (List UInt8)} (h : RStrs w (.slice (some ⟨b, off, none⟩) n cap) L) (k : Nat) (hk : k < n) : RStrs w (.slice (some ⟨b, off + k, none⟩) (n - k) (cap - k)) (L.drop k) := by
  rcases h.cases with ⟨⟨a, c, e⟩, rfl⟩ | ⟨b', off', c, e, h1, h2, h3, h4⟩
  · injection e with e1 e2 e3
    omega
  · injection e with e1 e2 e3
    injection e1 with e1
    injection e1 with e4 e5
    subst e4 e5 e3
    refine .inr ⟨b, off + k, cap - k, by rw [List.length_drop, e2], by rw [List.length_drop]; omega, by omega, h3, fun j u hj => ?_⟩
    have hj' : j < (L.drop k).length := by have := (List.getElem?_eq_some_iff.1 hj).1; simpa using this
    rw [List.length_drop] at hj'
    rw [Nat.add_assoc, h4 (k + j) (by omega), ← hj, List.getElem?_map, List.getElem?_drop, List.getElem?_eq_getElem (by omega)]
    rfl
theorem glue_leV (sep : List UInt8) (B : Nat) : ∀ L : List (List UInt8), (∀ x ∈ L, x.length ≤ B) → (glue sep L).length ≤ L.length * (B + sep.length)
  | [], _ => Nat.zero_le _
  | [x], h => by
    have := h x (List.mem_cons_self ..)
    show x.length ≤ 1 * (B + sep.length)
    omega
  | x :: y :: r, h => by
    have h1 := h x (List.mem_cons_self ..)
    have h2 := glue_leV sep B (y :: r) (fun z hz => h z (List.mem_cons_of_mem _ hz))
    rw [glue, List.length_append, List.length_append, List.length_cons, Nat.succ_mul]
    omega
theorem spread_m (L : List Hop) (hv : ∀ v ∈ L, checkV v = 0) (h1 : 0 < L.length) (h16 : L.length ≤ 16) : listV (allS (L.map viaH) nVia) = (L, 0) := by
  have e : allS (L.map viaH) nVia = L.map textV := by
    unfold allS
    rw [List.filter_eq_self.2 (by
      intro h hh
      obtain ⟨v, _, rfl⟩ := List.mem_map.1 hh
      exact same_self nVia), List.map_map]
    rfl
  rw [e]
  exact list_each L hv h1 h16
def hTo : Hdr := ⟨nTo, [120]⟩
def hA (L : List Hop) (K : Nat) : Hdr := ⟨[86, 73, 65], glue [44] ((L.map textV).take K)⟩
def hB (L : List Hop) (K : Nat) : Hdr := ⟨[118, 105, 97], glue [32, 44, 32] ((L.map textV).drop K)⟩
theorem spread_n (L : List Hop) (K : Nat) (hv : ∀ v ∈ L, checkV v = 0) (h1 : 0 < L.length) (h16 : L.length ≤ 16) : listV (allS ([hTo] ++ (if 0 < K then [hA L K] else []) ++ (if K < L.length then [hB L K] else [])) nVia) = (L, 0) := by
  have e : allS ([hTo] ++ (if 0 < K then [hA L K] else []) ++ (if K < L.length then [hB L K] else [])) nVia = (if 0 < K then [glue [44] ((L.map textV).take K)] else []) ++ (if K < L.length then [glue [32, 44, 32] ((L.map textV).drop K)] else []) := by
    unfold allS
    rw [List.filter_append, List.filter_append, List.map_append, List.map_append]
    have e0 : ([hTo].filter fun h => same h.name nVia) = [] := by decide +kernel
    rw [e0, List.map_nil, List.nil_append]
    congr 1
    · split
      · have : same (hA L K).name nVia = true := by show same [86, 73, 65] nVia = true; decide +kernel
        rw [List.filter_cons_of_pos (by exact this)]; rfl
      · rfl
    · split
      · have : same (hB L K).name nVia = true := by show same [118, 105, 97] nVia = true; decide +kernel
        rw [List.filter_cons_of_pos (by exact this)]; rfl
      · rfl
  rw [e]
  exact list_two L K hv h1 h16

end Go.Proofs.YtjohecbmeoalaaaDoor
