/-
  Packed: XBig, XBg0, XPln.
-/
import Derived.Test.YtipdiddjhimdcaaGreatDoorK15
import Derived.Test.YtipdiddjhimdcaaGreatDoorK16
import Derived.Laws.Tables
import Derived.Test.YtipdiddjhimdcaaGreatDoorK12
import Derived.Test.YtipdiddjhimdcaaGreatDoorK14
namespace Go.Proofs.YtipdiddjhimdcaaGreatDoor
set_option linter.unusedSimpArgs false
set_option linter.unusedVariables false
open Go.RowKit Go.Sort

theorem whole (vs : Array Value) : vs.toList = (vs.toList.drop 0).take vs.size := by rw [List.drop_zero, List.take_of_length_le (by simp)]
theorem setAll_get : ∀ (l : List Value) (cs : Array Value) (i j : Nat), (setAll cs i l)[j]? = if i ≤ j ∧ j < i + l.length ∧ j < cs.size then l[j - i]? else cs[j]?
  | [], cs, i, j => by rw [setAll, if_neg]; simp; omega
  | v :: r, cs, i, j => by
    rw [setAll, setAll_get r, Array.size_setIfInBounds, Array.getElem?_setIfInBounds]
    by_cases h1 : i = j
    · subst h1
      rw [if_neg (by omega), if_pos rfl]
      by_cases h2 : i < cs.size
      · rw [if_pos h2, if_pos (by simp; omega)]; simp
      · rw [if_neg h2, if_neg (by omega)]; simp; omega
    · rw [if_neg h1]
      by_cases h2 : i + 1 ≤ j ∧ j < i + 1 + r.length ∧ j < cs.size
      · rw [if_pos h2, if_pos (by simp; omega), show j - i = (j - (i + 1)) + 1 by omega]; simp
      · rw [if_neg h2, if_neg (by simp; omega)]
theorem setAll_whole {cs vs : Array Value} (h : cs.size = vs.size) : setAll cs 0 vs.toList = vs := by
  apply Array.ext_getElem?
  intro j
  rw [setAll_get]
  by_cases hj : j < vs.size
  · rw [if_pos (by simp; omega)]; simp
  · rw [if_neg (by simp; omega), Array.getElem?_eq_none (by omega), Array.getElem?_eq_none (by omega)]

section
variable {P : Program} {w : World} {g : Nat} {t : TypeId}
theorem loadVar_blk {T : TypeId} {fs : Array Field} {vs : Array Value} (hA : P.underlying T = some (.struct fs)) (hC : (P.info? T).map (·.size) = some vs.size) (hb : Blk w g t vs) :
    (loadVar T ⟨g, 0, none⟩).run P w = .ok (.agg vs) w := by
  obtain ⟨i, hi, his⟩ := Option.map_eq_some_iff.1 hC
  have hcell : ∀ j v, vs.toList[j]? = some v → w.cell? ((⟨g, 0, none⟩ : Addr).add j) = some v := by
    intro j v hj
    have e : w.cell? ⟨g, 0 + j, none⟩ = vs[0 + j]? := boxedCell hb (0 + j)
    rw [add_cell, e, ← hj]
    simp
  have hrun := run_loadCells_list (P := P) w ⟨g, 0, none⟩ vs.toList hcell
  simp at hrun
  simp [loadVar, isAgg, run_underlying hA, sizeOf, typeInfo, hi, his, hrun, Result.andThen]
theorem results_ct {fn : Func} {a b : Tmp} {T : TypeId} {tmps : Array Value} {fs : Array Field} {vs : Array Value} {x : Value} (h : fn.results = #[.cell a T, .tmp b]) (hp : tmps.getD a undef = .pointer (some ⟨g, 0, none⟩)) (hx : tmps.getD b undef = x)
    (hA : P.underlying T = some (.struct fs)) (hC : (P.info? T).map (·.size) = some vs.size) (hb : Blk w g t vs) : (results fn tmps).run P w = .ok (.tuple #[.agg vs, x]) w := by
  have hl := loadVar_blk hA hC hb
  rw [Array.getD_eq_getD_getElem?] at hp hx
  simp [results, h, hp, hx, asAddr, hl, Result.andThen]
theorem results_c {fn : Func} {a : Tmp} {T : TypeId} {tmps : Array Value} {fs : Array Field} {vs : Array Value} (h : fn.results = #[.cell a T]) (hp : tmps.getD a undef = .pointer (some ⟨g, 0, none⟩))
    (hA : P.underlying T = some (.struct fs)) (hC : (P.info? T).map (·.size) = some vs.size) (hb : Blk w g t vs) : (results fn tmps).run P w = .ok (.agg vs) w := by
  have hl := loadVar_blk hA hC hb
  rw [Array.getD_eq_getD_getElem?] at hp
  simp [results, h, hp, asAddr, hl, Result.andThen]
end

/-- a dialog as a row -/
theorem RDlg.row {w : World} {v : Value} {d : Dlg} (h : RDlg w v d) : ∃ vs : Array Value, v = .agg vs ∧ vs.size = 26 ∧ (vs.toList.all fun v => v.oneCell') = true ∧ vs[24]? = some (.int .i64 d.lin) ∧ vs[25]? = some (.int .i64 d.lout) ∧ RDlg w (.agg vs) d := by
  have h' := h
  obtain ⟨u1, u2, u3, u4, u5, u6, u7, u8, u9, rfl, h1, h2, h3, h4, h5, h6, h7, h8, h9⟩ := h
  obtain ⟨_, _, rfl, _⟩ := h1.form
  obtain ⟨_, _, rfl, _⟩ := h2.form
  obtain ⟨_, _, rfl, _⟩ := h3.form
  obtain ⟨_, _, rfl, _⟩ := h4.form
  obtain ⟨_, _, rfl, _⟩ := h5.form
  obtain ⟨_, _, rfl, _⟩ := h6.form
  obtain ⟨_, _, rfl, _⟩ := h7.form
  obtain ⟨_, _, rfl, _⟩ := h8.form
  obtain ⟨_, _, rfl, _⟩ := h9.form
  exact ⟨_, rfl, rfl, rfl, rfl, rfl, h'⟩
theorem RDlg.setLin {w : World} {vs : Array Value} {d : Dlg} (h : RDlg w (.agg vs) d) (n : Int) : RDlg w (.agg (vs.setIfInBounds 24 (.int .i64 n))) ⟨d.call, d.loc, d.rem, d.tgt, d.routes, n, d.lout⟩ := by
  obtain ⟨u1, u2, u3, u4, u5, u6, u7, u8, u9, e, h1, h2, h3, h4, h5, h6, h7, h8, h9⟩ := h
  injection e with e
  subst e
  exact ⟨u1, u2, u3, u4, u5, u6, u7, u8, u9, rfl, h1, h2, h3, h4, h5, h6, h7, h8, h9⟩
theorem RDlg.setTgt {w : World} {vs : Array Value} {d : Dlg} (h : RDlg w (.agg vs) d) (u : Uri) {q1 q2 : Value} (g1 : RPrms w q1 u.ps) (g2 : RPrms w q2 u.hs) :
    RDlg w (.agg (setAll vs 17 [.string (bs u.scheme), .string (bs u.user), .string (bs u.host), .int .i64 u.port, q1, q2])) ⟨d.call, d.loc, d.rem, u, d.routes, d.lin, d.lout⟩ := by
  obtain ⟨u1, u2, u3, u4, u5, u6, u7, u8, u9, e, h1, h2, h3, h4, h5, h6, h7, h8, h9⟩ := h
  injection e with e
  subst e
  exact ⟨u1, u2, u3, u4, u5, u6, q1, q2, u9, by kernel_rfl, h1, h2, h3, h4, h5, h6, g1, g2, h9⟩
/-- a request as a row -/
theorem RReq.row {w : World} {v : Value} {r : Rq} (h : RReq w v r) : ∃ rs : Array Value, v = .agg rs ∧ rs.size = 38 ∧ rs[25]? = some (.string (bs r.fromT)) ∧ rs[26]? = some (.string (bs r.toT)) ∧ rs[27]? = some (.string (bs r.call)) ∧ rs[28]? = some (.int .i64 r.seq) ∧
    (∃ a c, rs[32]? = some (.slice a r.contact.length c) ∧ RAdrs w (.slice a r.contact.length c) r.contact) ∧ RReq w (.agg rs) r := by
  have h' := h
  obtain ⟨c0, c1, c2, c3, c4, c5, c6, c7, c8, c9, c10, c11, c12, c13, c14, c15, u1, u2, u3, u4, u5, u6, u7, u8, rfl, h1, h2, h3, h4, h5, h6, h7, h8⟩ := h
  obtain ⟨a, c, rfl, _⟩ := h7.form
  exact ⟨_, rfl, rfl, rfl, rfl, rfl, rfl, ⟨a, c, rfl, h7⟩, h'⟩
theorem RReq.setTo {w : World} {rs : Array Value} {r : Rq} (h : RReq w (.agg rs) r) (t : List UInt8) : RReq w (.agg (rs.setIfInBounds 26 (.string (bs t)))) ⟨r.fr, r.dst, r.fromT, t, r.call, r.seq, r.contact, r.routes⟩ := by
  obtain ⟨c0, c1, c2, c3, c4, c5, c6, c7, c8, c9, c10, c11, c12, c13, c14, c15, u1, u2, u3, u4, u5, u6, u7, u8, e, h1⟩ := h
  injection e with e
  subst e
  exact ⟨c0, c1, c2, c3, c4, c5, c6, c7, c8, c9, c10, c11, c12, c13, c14, c15, u1, u2, u3, u4, u5, u6, u7, u8, rfl, h1⟩
theorem RReq.setSeq {w : World} {rs : Array Value} {r : Rq} (h : RReq w (.agg rs) r) (n : Int) : RReq w (.agg (rs.setIfInBounds 28 (.int .i64 n))) ⟨r.fr, r.dst, r.fromT, r.toT, r.call, n, r.contact, r.routes⟩ := by
  obtain ⟨c0, c1, c2, c3, c4, c5, c6, c7, c8, c9, c10, c11, c12, c13, c14, c15, u1, u2, u3, u4, u5, u6, u7, u8, e, h1⟩ := h
  injection e with e
  subst e
  exact ⟨c0, c1, c2, c3, c4, c5, c6, c7, c8, c9, c10, c11, c12, c13, c14, c15, u1, u2, u3, u4, u5, u6, u7, u8, rfl, h1⟩

/-! ### slices that do not lie in a given block -/
def Off (g : Nat) (v : Value) : Prop := ∀ b off p n c, v = .slice (some ⟨b, off, p⟩) n c → n ≠ 0 → b ≠ g
def DOff (g : Nat) (vs : Array Value) : Prop := ∀ x ∈ vs.toList, Off g x
theorem Off.str (g : Nat) (s : ByteArray) : Off g (.string s) := fun _ _ _ _ _ h => by cases h
theorem Off.int (g : Nat) (n : Int) : Off g (.int .i64 n) := fun _ _ _ _ _ h => by cases h
theorem Off.fresh {v : Value} {g B : Nat} (h : Fresh B v) (hg : g < B) : Off g v := by
  intro b off p n c e _
  have := h _ _ _ e
  dsimp only at this
  omega
theorem Off.prms {w w' : World} {v : Value} {L : List Prm} {g : Nat} (h : RPrms w v L) (ho : Off g v) (hh : ∀ k, k ≠ g → w'.heap[k]? = w.heap[k]?) (hs : w.heap.size ≤ w'.heap.size) : RPrms w' v L := by
  rcases h with h | ⟨b, off, cap, h1, h2, h2', h3, h4⟩
  · exact .inl h
  · by_cases hL : L.length = 0
    · exact .inl ⟨⟨_, _, by rw [h1, hL]⟩, List.length_eq_zero_iff.1 hL⟩
    have hb : b ≠ g := ho _ _ _ _ _ h1 hL
    have hc : ∀ o, w'.cell? ⟨b, o, none⟩ = w.cell? ⟨b, o, none⟩ := fun o => World.cell?_of_block (w := w) (a := ⟨b, o, none⟩) (hh b hb)
    refine .inr ⟨b, off, cap, h1, h2, h2', Nat.lt_of_lt_of_le h3 hs, fun j hj => ?_⟩
    rw [hc, hc, hc]; exact h4 j hj
theorem mem_setAll : ∀ (l : List Value) (cs : Array Value) (i : Nat) (x : Value), x ∈ (setAll cs i l).toList → x ∈ cs.toList ∨ x ∈ l
  | [], _, _, _, h => .inl h
  | v :: r, cs, i, x, h => by
    rcases mem_setAll r _ _ _ h with h | h
    · rw [Array.toList_setIfInBounds] at h
      rcases List.mem_or_eq_of_mem_set h with g | rfl
      · exact .inl g
      · exact .inr (List.mem_cons_self ..)
    · exact .inr (List.mem_cons_of_mem _ h)
theorem DOff.set {g : Nat} {vs : Array Value} (h : DOff g vs) (i : Nat) {x : Value} (hx : Off g x) : DOff g (vs.setIfInBounds i x) := by
  intro y hy
  rcases mem_setAll [x] vs i y hy with e | e
  · exact h y e
  · rw [List.mem_singleton.1 e]; exact hx
theorem DOff.setAll {g : Nat} {vs : Array Value} (h : DOff g vs) (i : Nat) {l : List Value} (hl : ∀ x ∈ l, Off g x) : DOff g (setAll vs i l) := by
  intro y hy
  rcases mem_setAll l vs i y hy with e | e
  · exact h y e
  · exact hl y e

theorem alloc_setRow (w : World) (cs vs : Array Value) (t : TypeId) : (w.alloc (.cells cs t)).setRow w.heap.size vs = w.alloc (.cells vs t) := by
  unfold World.setRow World.alloc
  congr 1
  apply Array.ext_getElem?
  intro j
  simp only [Array.getElem?_modify, Array.getElem?_push]
  by_cases hj : w.heap.size = j
  · subst hj; simp
  · simp [hj]; try (split <;> first | rfl | (exfalso; omega))
section
variable {P : Program} {ops : Array Oper} {rest : List Oper} {o : Oper} {a : Act} {Q : Exit → Act → World → Prop} {w : World} {t : TypeId}
def Hold (p : Prop) : Prop := p
theorem holdStore (T : TypeId) {p x : Operand} (ho : o.op = .store T p x) (h : Hold (wpList P ops Q (o :: rest) a w)) : wpList P ops Q (o :: rest) a w := h
theorem holdLoad (T : TypeId) {p : Operand} (ho : o.op = .load T p) (h : Hold (wpList P ops Q (o :: rest) a w)) : wpList P ops Q (o :: rest) a w := h
/-- a struct stored whole into a variable that was laid just now -/
theorem wpList_storeNew {cs vs : Array Value} {T : TypeId} {p x : Operand} (hgd : o.guard = none) (ho : o.op = .store T p x) (hp : a.eval p = .pointer (some ⟨w.heap.size, 0, none⟩)) (hx : a.eval x = .agg vs)
    (hC : (P.info? T).map (·.size) = some vs.size) (hold : cs.size = vs.size) (h1 : (vs.toList.all fun v => v.oneCell') = true)
    (h : wpList P ops Q rest (a.put o.dst undef) (w.alloc (.cells vs t))) : wpList P ops Q (o :: rest) a (w.alloc (.cells cs t)) := by
  refine wpList_store_row hgd T p x ho w.heap.size vs hp hx t cs (heap_alloc_new w _) hC hold (by rw [← h1]; simp) ?_
  rw [alloc_setRow]
  exact h
theorem setRow_far (w : World) (g : Nat) (vs : Array Value) (k : Nat) (hk : k ≠ g) : (w.setRow g vs).heap[k]? = w.heap[k]? := by
  unfold World.setRow
  simp [Array.getElem?_modify, Ne.symm hk]
theorem setRow_size (w : World) (g : Nat) (vs : Array Value) : (w.setRow g vs).heap.size = w.heap.size := by
  unfold World.setRow; simp
theorem Below.setRow {B : Nat} {w0 : World} (h : Below B w0 w) {g : Nat} (hg : B ≤ g) (vs : Array Value) : Below B w0 (w.setRow g vs) :=
  ⟨h.os, h.tape, h.output, by rw [setRow_size]; exact h.size, fun k hk => (setRow_far w g vs k (by omega)).trans (h.block k hk)⟩
theorem Blk.row {g : Nat} {cs : Array Value} (h : Blk w g t cs) (vs : Array Value) : Blk (w.setRow g vs) g t vs := setRow_heap w g cs vs t (0, 0) h
end

end Go.Proofs.YtipdiddjhimdcaaGreatDoor

namespace Go.Proofs.YtipdiddjhimdcaaGreatDoor
set_option linter.unusedSimpArgs false
set_option linter.unusedVariables false
open Go.RowKit Go.Sort


/-- a request's cells, one by one -/
theorem RReq.lit {w : World} {v : Value} {r : Rq} (h : RReq w v r) : ∃ c0 c1 c2 c3 c4 c5 c6 c7 c8 c9 c10 c11 c12 c13 c14 c15 e1 y1 e2 y2 e3 y3 e4 y4 e5 y5 e6 y6 e7 y7 e8 y8, v = .agg #[c0, c1, c2, c3, c4, c5, c6, c7, c8, .string (bs r.fr.disp), .string (bs r.fr.uri.scheme), .string (bs r.fr.uri.user), .string (bs r.fr.uri.host), .int .i64 r.fr.uri.port, .slice e1 r.fr.uri.ps.length y1, .slice e2 r.fr.uri.hs.length y2, .slice e3 r.fr.ps.length y3, .string (bs r.dst.disp), .string (bs r.dst.uri.scheme), .string (bs r.dst.uri.user), .string (bs r.dst.uri.host), .int .i64 r.dst.uri.port, .slice e4 r.dst.uri.ps.length y4, .slice e5 r.dst.uri.hs.length y5, .slice e6 r.dst.ps.length y6, .string (bs r.fromT), .string (bs r.toT), .string (bs r.call), .int .i64 r.seq, c9, c10, c11, .slice e7 r.contact.length y7, .slice e8 r.routes.length y8, c12, c13, c14, c15] ∧ RPrms w (.slice e1 r.fr.uri.ps.length y1) r.fr.uri.ps ∧ RPrms w (.slice e2 r.fr.uri.hs.length y2) r.fr.uri.hs ∧ RPrms w (.slice e3 r.fr.ps.length y3) r.fr.ps ∧ RPrms w (.slice e4 r.dst.uri.ps.length y4) r.dst.uri.ps ∧ RPrms w (.slice e5 r.dst.uri.hs.length y5) r.dst.uri.hs ∧ RPrms w (.slice e6 r.dst.ps.length y6) r.dst.ps ∧ RAdrs w (.slice e7 r.contact.length y7) r.contact ∧ RStrs w (.slice e8 r.routes.length y8) r.routes := by
  obtain ⟨c0, c1, c2, c3, c4, c5, c6, c7, c8, c9, c10, c11, c12, c13, c14, c15, u1, u2, u3, u4, u5, u6, u7, u8, rfl, h1, h2, h3, h4, h5, h6, h7, h8⟩ := h
  obtain ⟨e1, y1, rfl, _⟩ := h1.form
  obtain ⟨e2, y2, rfl, _⟩ := h2.form
  obtain ⟨e3, y3, rfl, _⟩ := h3.form
  obtain ⟨e4, y4, rfl, _⟩ := h4.form
  obtain ⟨e5, y5, rfl, _⟩ := h5.form
  obtain ⟨e6, y6, rfl, _⟩ := h6.form
  obtain ⟨e7, y7, rfl, _⟩ := h7.form
  obtain ⟨e8, y8, rfl, _⟩ := h8.form
  exact ⟨c0, c1, c2, c3, c4, c5, c6, c7, c8, c9, c10, c11, c12, c13, c14, c15, e1, y1, e2, y2, e3, y3, e4, y4, e5, y5, e6, y6, e7, y7, e8, y8, rfl, h1, h2, h3, h4, h5, h6, h7, h8⟩
theorem RStrs.emp (w : World) : RStrs w (.slice none 0 0) [] := .inl ⟨⟨_, _, rfl⟩, rfl, rfl⟩
theorem RDlg.zero (w : World) : RDlg w (.agg #[(.string ⟨#[]⟩), (.string ⟨#[]⟩), (.string ⟨#[]⟩), (.string ⟨#[]⟩), (.string ⟨#[]⟩), (.int .i64 0), (.slice none 0 0), (.slice none 0 0), (.slice none 0 0), (.string ⟨#[]⟩), (.string ⟨#[]⟩), (.string ⟨#[]⟩), (.string ⟨#[]⟩), (.int .i64 0), (.slice none 0 0), (.slice none 0 0), (.slice none 0 0), (.string ⟨#[]⟩), (.string ⟨#[]⟩), (.string ⟨#[]⟩), (.int .i64 0), (.slice none 0 0), (.slice none 0 0), (.slice none 0 0), (.int .i64 0), (.int .i64 0)]) dlg0 :=
  ⟨_, _, _, _, _, _, _, _, _, rfl, RPrms.emp w, RPrms.emp w, RPrms.emp w, RPrms.emp w, RPrms.emp w, RPrms.emp w, RPrms.emp w, RPrms.emp w, RStrs.emp w⟩
def AdrB (a : Adr) : Prop := a.disp.length ≤ 4294967280 ∧ a.uri.scheme.length ≤ 4294967280 ∧ a.uri.host.length ≤ 4294967280 ∧ (∀ p ∈ a.uri.ps, p.name.length ≤ 4294967280 ∧ p.value.length ≤ 4294967280) ∧ (∀ p ∈ a.uri.hs, p.name.length ≤ 4294967280 ∧ p.value.length ≤ 4294967280) ∧ (∀ p ∈ a.ps, p.name.length ≤ 4294967280 ∧ p.value.length ≤ 4294967280) ∧
  a.uri.ps.length ≤ 1099511627776 ∧ a.uri.hs.length ≤ 1099511627776 ∧ a.ps.length ≤ 1099511627776
def RqB (r : Rq) : Prop := AdrB r.fr ∧ AdrB r.dst ∧ (∀ c ∈ r.contact, c.uri.ps.length ≤ 1099511627776 ∧ c.uri.hs.length ≤ 1099511627776) ∧ r.routes.length ≤ 1099511627776 ∧ r.toT.length ≤ 4294967280 ∧ r.fromT.length ≤ 4294967280
theorem beginS_cases (r : Rq) (t : List UInt8) :
    (r.toT ≠ [] ∧ beginS r t = (dlg0, 1)) ∨ (r.toT = [] ∧ r.fromT = [] ∧ beginS r t = (dlg0, 1)) ∨ (r.toT = [] ∧ r.fromT ≠ [] ∧ token t = false ∧ beginS r t = (dlg0, 1)) ∨
    (r.toT = [] ∧ r.fromT ≠ [] ∧ token t = true ∧ r.contact.length ≠ 1 ∧ beginS r t = (dlg0, 100)) ∨
    (r.toT = [] ∧ r.fromT ≠ [] ∧ token t = true ∧ ∃ c, r.contact = [c] ∧ ((checkA (taggedS r.dst t) ≠ 0 ∧ beginS r t = (dlg0, checkA (taggedS r.dst t))) ∨ (checkA (taggedS r.dst t) = 0 ∧ beginS r t = (⟨r.call, taggedS r.dst t, r.fr, c.uri, r.routes, r.seq, 0⟩, 0)))) := by
  unfold beginS
  by_cases h1 : r.toT = []
  · by_cases h2 : r.fromT = []
    · exact .inr (.inl ⟨h1, h2, if_pos (.inr (.inl h2))⟩)
    · cases h3 : token t
      · exact .inr (.inr (.inl ⟨h1, h2, rfl, if_pos (.inr (.inr rfl))⟩))
      · have hn : ¬ (r.toT ≠ [] ∨ r.fromT = [] ∨ true = false) := by rintro (h | h | h); exact h h1; exact h2 h; cases h
        rw [if_neg hn]
        match hc : r.contact with
        | [] => exact .inr (.inr (.inr (.inl ⟨h1, h2, rfl, by simp, rfl⟩)))
        | a :: b :: l => exact .inr (.inr (.inr (.inl ⟨h1, h2, rfl, by simp, rfl⟩)))
        | [c] =>
          refine .inr (.inr (.inr (.inr ⟨h1, h2, rfl, c, rfl, ?_⟩)))
          by_cases h4 : checkA (taggedS r.dst t) = 0
          · exact .inr ⟨h4, by dsimp only; rw [if_pos h4]⟩
          · exact .inl ⟨h4, by dsimp only; rw [if_neg h4]⟩
  · exact .inl ⟨h1, if_pos (.inl h1)⟩
def isBool : Value → Bool
  | .bool _ => true
  | _ => false
theorem Off.noBool {w : World} {v : Value} {L : List Prm} {g : Nat} {t : TypeId} {cs : Array Value} (h : RPrms w v L) (hb : Blk w g t cs) (hn : (cs.toList.all fun x => !isBool x) = true) : Off g v := by
  intro b off p n c e hne hbg
  rcases h with ⟨⟨ao, cap, rfl⟩, _⟩ | ⟨b', off', cap, rfl, _, _, h3, h4⟩
  · injection e with _ e _; exact hne e.symm
  · injection e with e en _
    injection e with e
    injection e with e1 e2 _
    have hL : 0 < L.length := by omega
    have hc := (h4 0 hL).2.2
    subst e1 hbg
    rw [show w.cell? ⟨b', off' + 0 * 3 + 2, none⟩ = cs[off' + 0 * 3 + 2]? from boxedCell hb _] at hc
    rw [List.all_eq_true] at hn
    have := hn _ (List.mem_of_getElem? (by rw [Array.getElem?_toList]; exact hc))
    simp [isBool] at this
theorem Off.strs {w w' : World} {v : Value} {L : List (List UInt8)} {g : Nat} (h : RStrs w v L) (ho : Off g v) (hh : ∀ k, k ≠ g → w'.heap[k]? = w.heap[k]?) (hs : w.heap.size ≤ w'.heap.size) : RStrs w' v L := by
  rcases h with h | ⟨b, off, cap, h1, h2, h2', h3, h4⟩
  · exact .inl h
  · by_cases hL : L.length = 0
    · exact .inl ⟨⟨_, _, by rw [h1, hL]⟩, hL, by rw [List.length_eq_zero_iff.1 hL]; rfl⟩
    have hb : b ≠ g := ho _ _ _ _ _ h1 hL
    have hc : ∀ o, w'.cell? ⟨b, o, none⟩ = w.cell? ⟨b, o, none⟩ := fun o => World.cell?_of_block (w := w) (a := ⟨b, o, none⟩) (hh b hb)
    refine .inr ⟨b, off, cap, h1, h2, h2', Nat.lt_of_lt_of_le h3 hs, fun j u hj => ?_⟩
    rw [hc]; exact h4 j u hj
theorem Off.oldS {w : World} {v : Value} {L : List (List UInt8)} {g : Nat} (h : RStrs w v L) (hg : w.heap.size ≤ g) : Off g v := by
  intro b off p n c e hn
  rcases h with ⟨⟨ao, cap, rfl⟩, _⟩ | ⟨b', off', cap, rfl, _, _, h3, _⟩
  · injection e with _ e _; exact absurd e.symm hn
  · injection e with e _ _; injection e with e; injection e with e _ _; omega
theorem Blk.drw {w : World} {g : Nat} {t : TypeId} {cs : Array Value} (h : Blk w g t cs) : Blk w.drew g t cs := h
theorem zUp {B : Nat} {w w1 w2 : World} (h : Below B w w1) (hs : B ≤ w1.heap.size) (hC : Below w1.heap.size w1 w2) : Below B w w2 := h.trans (hC.mono hs)
theorem zDrew {B : Nat} {w w' : World} (h : Below B w w') : Below B w w'.drew := ⟨h.os, h.tape, h.output, h.size, h.block⟩

end Go.Proofs.YtipdiddjhimdcaaGreatDoor

namespace Go.Proofs.YtipdiddjhimdcaaGreatDoor
set_option linter.unusedSimpArgs false
set_option linter.unusedVariables false
open Go.RowKit Go.Sort


/-- every value fills one cell -/
def Onec (vs : Array Value) : Prop := (vs.toList.all fun v => v.oneCell') = true
/-- no value is a truth value -/
def NoB (vs : Array Value) : Prop := (vs.toList.all fun x => !isBool x) = true
theorem Off.zero (g : Nat) (a : Option Addr) (c : Nat) : Off g (.slice a 0 c) := fun _ _ _ _ _ h hn => by injection h with _ h _; exact absurd h.symm hn
def pUri : Uri := ⟨[115, 105, 112], [99], [100], 5070, [], []⟩
def pFrom : Adr := ⟨[], ⟨[115, 105, 112], [99], [100], 0, [], []⟩, [⟨[116, 97, 103], [49], true⟩]⟩
def pTo : Adr := ⟨[], ⟨[115, 105, 112], [97], [98], 0, [], []⟩, []⟩
def plainRq : Rq := ⟨pFrom, pTo, [49], [], [57], 7, [⟨[], pUri, []⟩], []⟩
theorem ex18_1 : parseU [115, 105, 112, 58, 99, 64, 100, 58, 53, 48, 55, 48] = ((pUri, 0) : Uri × Int) := by decide +kernel
theorem ex18_2 : parseA [60, 115, 105, 112, 58, 99, 64, 100, 62, 59, 116, 97, 103, 61, 49] = ((pFrom, 0) : Adr × Int) := by decide +kernel
theorem ex18_3 : parseA [60, 115, 105, 112, 58, 97, 64, 98, 62] = ((pTo, 0) : Adr × Int) := by decide +kernel
theorem ang18_2 : 0 ≤ angS (trim [60, 115, 105, 112, 58, 99, 64, 100, 62, 59, 116, 97, 103, 61, 49]) := by decide +kernel
theorem ang18_3 : 0 ≤ angS (trim [60, 115, 105, 112, 58, 97, 64, 98, 62]) := by decide +kernel

set_option maxRecDepth 100000 in
set_option maxHeartbeats 6400000 in
theorem plainQ_c (w : World) : Calls Tryz.prog 26 #[] w fun e w' => ∃ rs : Array Value, e = .returned (.agg rs) ∧ rs.size = 38 ∧ Onec rs ∧ NoB rs ∧ RReq w' (.agg rs) plainRq ∧ Below w.heap.size w w' := by
  have H1 := Lib.hid (fun wx => parseUR_c ⟨#[115, 105, 112, 58, 99, 64, 100, 58, 53, 48, 55, 48]⟩ (by decide) wx)
  have H2 := Lib.hid (fun wx => parseAR_k ⟨#[60, 115, 105, 112, 58, 99, 64, 100, 62, 59, 116, 97, 103, 61, 49]⟩ (by decide) wx ang18_2 (by rw [show us ⟨#[60, 115, 105, 112, 58, 99, 64, 100, 62, 59, 116, 97, 103, 61, 49]⟩ = [60, 115, 105, 112, 58, 99, 64, 100, 62, 59, 116, 97, 103, 61, 49] from rfl, ex18_2]))
  have H3 := Lib.hid (fun wx => parseAR_k ⟨#[60, 115, 105, 112, 58, 97, 64, 98, 62]⟩ (by decide) wx ang18_3 (by rw [show us ⟨#[60, 115, 105, 112, 58, 97, 64, 98, 62]⟩ = [60, 115, 105, 112, 58, 97, 64, 98, 62] from rfl, ex18_3]))
  rw [show us ⟨#[115, 105, 112, 58, 99, 64, 100, 58, 53, 48, 55, 48]⟩ = [115, 105, 112, 58, 99, 64, 100, 58, 53, 48, 55, 48] from rfl, ex18_1] at H1
  rw [show us ⟨#[60, 115, 105, 112, 58, 99, 64, 100, 62, 59, 116, 97, 103, 61, 49]⟩ = [60, 115, 105, 112, 58, 99, 64, 100, 62, 59, 116, 97, 103, 61, 49] from rfl, ex18_2] at H2
  rw [show us ⟨#[60, 115, 105, 112, 58, 97, 64, 98, 62]⟩ = [60, 115, 105, 112, 58, 97, 64, 98, 62] from rfl, ex18_3] at H3
  unfold UriPost at H1
  unfold AdrPost at H2 H3
  dsimp only [pUri, pFrom, pTo] at H1 H2 H3
  rw [show sv [115, 105, 112] = .string ⟨#[115, 105, 112]⟩ from rfl, show sv [99] = .string ⟨#[99]⟩ from rfl, show sv [100] = .string ⟨#[100]⟩ from rfl] at H1
  rw [show sv [] = .string ⟨#[]⟩ from rfl, show sv [115, 105, 112] = .string ⟨#[115, 105, 112]⟩ from rfl, show sv [99] = .string ⟨#[99]⟩ from rfl, show sv [100] = .string ⟨#[100]⟩ from rfl] at H2
  rw [show sv [] = .string ⟨#[]⟩ from rfl, show sv [115, 105, 112] = .string ⟨#[115, 105, 112]⟩ from rfl, show sv [97] = .string ⟨#[97]⟩ from rfl, show sv [98] = .string ⟨#[98]⟩ from rfl] at H3
  have hB0 : Below w.heap.size w (w.alloc (.cells #[(.string ⟨#[]⟩), (.string ⟨#[]⟩), (.string ⟨#[]⟩), (.string ⟨#[]⟩), (.int .i64 0), (.slice none 0 0), (.slice none 0 0), (.string ⟨#[]⟩), (.string ⟨#[]⟩), (.string ⟨#[]⟩), (.string ⟨#[]⟩), (.string ⟨#[]⟩), (.string ⟨#[]⟩), (.int .i64 0), (.slice none 0 0), (.slice none 0 0), (.slice none 0 0), (.string ⟨#[]⟩), (.string ⟨#[]⟩), (.string ⟨#[]⟩), (.string ⟨#[]⟩), (.int .i64 0), (.slice none 0 0), (.slice none 0 0), (.slice none 0 0), (.string ⟨#[]⟩), (.string ⟨#[]⟩), (.string ⟨#[]⟩), (.int .i64 0), (.int .i64 0), (.string ⟨#[]⟩), (.slice none 0 0), (.slice none 0 0), (.slice none 0 0), (.slice none 0 0), (.string ⟨#[]⟩), (.string ⟨#[]⟩), (.string ⟨#[]⟩)] 32)) := (Below.refl _ _).alloc (Nat.le_refl _) _
  have br := Blk.new w 32 #[(.string ⟨#[]⟩), (.string ⟨#[]⟩), (.string ⟨#[]⟩), (.string ⟨#[]⟩), (.int .i64 0), (.slice none 0 0), (.slice none 0 0), (.string ⟨#[]⟩), (.string ⟨#[]⟩), (.string ⟨#[]⟩), (.string ⟨#[]⟩), (.string ⟨#[]⟩), (.string ⟨#[]⟩), (.int .i64 0), (.slice none 0 0), (.slice none 0 0), (.slice none 0 0), (.string ⟨#[]⟩), (.string ⟨#[]⟩), (.string ⟨#[]⟩), (.string ⟨#[]⟩), (.int .i64 0), (.slice none 0 0), (.slice none 0 0), (.slice none 0 0), (.string ⟨#[]⟩), (.string ⟨#[]⟩), (.string ⟨#[]⟩), (.int .i64 0), (.int .i64 0), (.string ⟨#[]⟩), (.slice none 0 0), (.slice none 0 0), (.slice none 0 0), (.slice none 0 0), (.string ⟨#[]⟩), (.string ⟨#[]⟩), (.string ⟨#[]⟩)]
  obtain ⟨w0, hw0⟩ : ∃ w0, w0 = w.alloc (.cells #[(.string ⟨#[]⟩), (.string ⟨#[]⟩), (.string ⟨#[]⟩), (.string ⟨#[]⟩), (.int .i64 0), (.slice none 0 0), (.slice none 0 0), (.string ⟨#[]⟩), (.string ⟨#[]⟩), (.string ⟨#[]⟩), (.string ⟨#[]⟩), (.string ⟨#[]⟩), (.string ⟨#[]⟩), (.int .i64 0), (.slice none 0 0), (.slice none 0 0), (.slice none 0 0), (.string ⟨#[]⟩), (.string ⟨#[]⟩), (.string ⟨#[]⟩), (.string ⟨#[]⟩), (.int .i64 0), (.slice none 0 0), (.slice none 0 0), (.slice none 0 0), (.string ⟨#[]⟩), (.string ⟨#[]⟩), (.string ⟨#[]⟩), (.int .i64 0), (.int .i64 0), (.string ⟨#[]⟩), (.slice none 0 0), (.slice none 0 0), (.slice none 0 0), (.slice none 0 0), (.string ⟨#[]⟩), (.string ⟨#[]⟩), (.string ⟨#[]⟩)] 32) := ⟨_, rfl⟩
  rw [← hw0] at hB0 br
  have HW0 := Lib.hid hw0
  clear hw0
  go_enter Tryz.func26, Tryz.ntmps26
  go_upto_region 1 with fail
  rw [← HW0.out]
  clear HW0
  go_upto_region 2 with (go_at_call 68; refine (H1.out _).mono ?_; rintro e w1 ⟨v1, v2, rfl, r1, r2, _, _, hC1⟩; obtain ⟨a1, c1, rfl, _⟩ := r1.form; obtain ⟨a2, c2, rfl, _⟩ := r2.form)
  have hB1 := hB0.trans (hC1.mono hB0.size)
  replace hB1 := hB1.alloc hB1.size (.cells #[.string ⟨#[115, 105, 112]⟩, .string ⟨#[99]⟩, .string ⟨#[100]⟩, .int .i64 5070, .slice a1 0 c1, .slice a2 0 c2] 24)
  replace br := (br.call hC1).alloc (.cells #[.string ⟨#[115, 105, 112]⟩, .string ⟨#[99]⟩, .string ⟨#[100]⟩, .int .i64 5070, .slice a1 0 c1, .slice a2 0 c2] 24)
  have bu := Blk.new w1 24 #[.string ⟨#[115, 105, 112]⟩, .string ⟨#[99]⟩, .string ⟨#[100]⟩, .int .i64 5070, .slice a1 0 c1, .slice a2 0 c2]
  have hA : Below w1.heap.size w1 (w1.alloc (.cells #[.string ⟨#[115, 105, 112]⟩, .string ⟨#[99]⟩, .string ⟨#[100]⟩, .int .i64 5070, .slice a1 0 c1, .slice a2 0 c2] 24)) := (Below.refl _ _).alloc (Nat.le_refl _) _
  replace r1 := r1.below hA (Nat.le_refl _)
  replace r2 := r2.below hA (Nat.le_refl _)
  obtain ⟨g1, hg1⟩ : ∃ x, x = w1.heap.size := ⟨_, rfl⟩
  obtain ⟨w2, hw2⟩ : ∃ x, x = w1.alloc (.cells #[.string ⟨#[115, 105, 112]⟩, .string ⟨#[99]⟩, .string ⟨#[100]⟩, .int .i64 5070, .slice a1 0 c1, .slice a2 0 c2] 24) := ⟨_, rfl⟩
  rw [← hw2] at hB1 br bu r1 r2
  rw [← hw2]
  rw [← hg1] at bu
  rw [← hg1]
  clear hw2 hg1 hA hC1 hB0
  go_upto_region 3 with (go_at_call 69; refine (H2.out _).mono ?_; rintro e w3 ⟨v3, v4, v5, rfl, r3, r4, r5, _, _, f5, hC⟩; have o5 : Off w.heap.size v5 := Off.fresh f5 br.lt; clear f5; obtain ⟨a3, c3, rfl, _⟩ := r3.form; obtain ⟨a4, c4, rfl, _⟩ := r4.form; obtain ⟨a5, c5, rfl, _⟩ := r5.form)
  have hB3 := hB1.trans (hC.mono hB1.size)
  replace hB3 := hB3.alloc hB3.size (.cells #[.string ⟨#[]⟩, .string ⟨#[115, 105, 112]⟩, .string ⟨#[99]⟩, .string ⟨#[100]⟩, .int .i64 0, .slice a3 0 c3, .slice a4 0 c4, .slice a5 1 c5] 26)
  replace br := (br.call hC).alloc (.cells #[.string ⟨#[]⟩, .string ⟨#[115, 105, 112]⟩, .string ⟨#[99]⟩, .string ⟨#[100]⟩, .int .i64 0, .slice a3 0 c3, .slice a4 0 c4, .slice a5 1 c5] 26)
  replace bu := (bu.call hC).alloc (.cells #[.string ⟨#[]⟩, .string ⟨#[115, 105, 112]⟩, .string ⟨#[99]⟩, .string ⟨#[100]⟩, .int .i64 0, .slice a3 0 c3, .slice a4 0 c4, .slice a5 1 c5] 26)
  have bf := Blk.new w3 26 #[.string ⟨#[]⟩, .string ⟨#[115, 105, 112]⟩, .string ⟨#[99]⟩, .string ⟨#[100]⟩, .int .i64 0, .slice a3 0 c3, .slice a4 0 c4, .slice a5 1 c5]
  have hA : Below w3.heap.size w3 (w3.alloc (.cells #[.string ⟨#[]⟩, .string ⟨#[115, 105, 112]⟩, .string ⟨#[99]⟩, .string ⟨#[100]⟩, .int .i64 0, .slice a3 0 c3, .slice a4 0 c4, .slice a5 1 c5] 26)) := (Below.refl _ _).alloc (Nat.le_refl _) _
  replace r1 := (r1.below hC (Nat.le_refl _)).below hA (Nat.le_refl _)
  replace r2 := (r2.below hC (Nat.le_refl _)).below hA (Nat.le_refl _)
  replace r3 := r3.below hA (Nat.le_refl _)
  replace r4 := r4.below hA (Nat.le_refl _)
  replace r5 := r5.below hA (Nat.le_refl _)
  obtain ⟨g3, hg3⟩ : ∃ x, x = w3.heap.size := ⟨_, rfl⟩
  obtain ⟨w4, hw4⟩ : ∃ x, x = w3.alloc (.cells #[.string ⟨#[]⟩, .string ⟨#[115, 105, 112]⟩, .string ⟨#[99]⟩, .string ⟨#[100]⟩, .int .i64 0, .slice a3 0 c3, .slice a4 0 c4, .slice a5 1 c5] 26) := ⟨_, rfl⟩
  rw [← hw4] at hB3 br bu bf r1 r2 r3 r4 r5
  rw [← hw4]
  rw [← hg3] at bf
  rw [← hg3]
  clear hw4 hg3 hA hC hB1
  go_upto_region 4 with (go_at_call 69; refine (H3.out _).mono ?_; rintro e w5 ⟨v6, v7, v8, rfl, r6, r7, r8, _, _, _, hC⟩; obtain ⟨a6, c6, rfl, _⟩ := r6.form; obtain ⟨a7, c7, rfl, _⟩ := r7.form; obtain ⟨a8, c8, rfl, _⟩ := r8.form)
  have hB5 := hB3.trans (hC.mono hB3.size)
  replace hB5 := hB5.alloc hB5.size (.cells #[.string ⟨#[]⟩, .string ⟨#[115, 105, 112]⟩, .string ⟨#[97]⟩, .string ⟨#[98]⟩, .int .i64 0, .slice a6 0 c6, .slice a7 0 c7, .slice a8 0 c8] 26)
  replace br := (br.call hC).alloc (.cells #[.string ⟨#[]⟩, .string ⟨#[115, 105, 112]⟩, .string ⟨#[97]⟩, .string ⟨#[98]⟩, .int .i64 0, .slice a6 0 c6, .slice a7 0 c7, .slice a8 0 c8] 26)
  replace bu := (bu.call hC).alloc (.cells #[.string ⟨#[]⟩, .string ⟨#[115, 105, 112]⟩, .string ⟨#[97]⟩, .string ⟨#[98]⟩, .int .i64 0, .slice a6 0 c6, .slice a7 0 c7, .slice a8 0 c8] 26)
  replace bf := (bf.call hC).alloc (.cells #[.string ⟨#[]⟩, .string ⟨#[115, 105, 112]⟩, .string ⟨#[97]⟩, .string ⟨#[98]⟩, .int .i64 0, .slice a6 0 c6, .slice a7 0 c7, .slice a8 0 c8] 26)
  have bt := Blk.new w5 26 #[.string ⟨#[]⟩, .string ⟨#[115, 105, 112]⟩, .string ⟨#[97]⟩, .string ⟨#[98]⟩, .int .i64 0, .slice a6 0 c6, .slice a7 0 c7, .slice a8 0 c8]
  have hA : Below w5.heap.size w5 (w5.alloc (.cells #[.string ⟨#[]⟩, .string ⟨#[115, 105, 112]⟩, .string ⟨#[97]⟩, .string ⟨#[98]⟩, .int .i64 0, .slice a6 0 c6, .slice a7 0 c7, .slice a8 0 c8] 26)) := (Below.refl _ _).alloc (Nat.le_refl _) _
  replace r1 := (r1.below hC (Nat.le_refl _)).below hA (Nat.le_refl _)
  replace r2 := (r2.below hC (Nat.le_refl _)).below hA (Nat.le_refl _)
  replace r3 := (r3.below hC (Nat.le_refl _)).below hA (Nat.le_refl _)
  replace r4 := (r4.below hC (Nat.le_refl _)).below hA (Nat.le_refl _)
  replace r5 := (r5.below hC (Nat.le_refl _)).below hA (Nat.le_refl _)
  replace r6 := r6.below hA (Nat.le_refl _)
  replace r7 := r7.below hA (Nat.le_refl _)
  replace r8 := r8.below hA (Nat.le_refl _)
  obtain ⟨g5, hg5⟩ : ∃ x, x = w5.heap.size := ⟨_, rfl⟩
  obtain ⟨w6, hw6⟩ : ∃ x, x = w5.alloc (.cells #[.string ⟨#[]⟩, .string ⟨#[115, 105, 112]⟩, .string ⟨#[97]⟩, .string ⟨#[98]⟩, .int .i64 0, .slice a6 0 c6, .slice a7 0 c7, .slice a8 0 c8] 26) := ⟨_, rfl⟩
  rw [← hw6] at hB5 br bu bf bt r1 r2 r3 r4 r5 r6 r7 r8
  rw [← hw6]
  rw [← hg5] at bt
  rw [← hg5]
  clear hw6 hg5 hA hC hB3
  have HB := Lib.hid hB5
  have HR := Lib.hid (And.intro r1 (And.intro r2 (And.intro r3 (And.intro r4 (And.intro r5 (And.intro r6 (And.intro r7 r8)))))))
  have hlt6 := br.lt
  have bc := Blk.new w6 26 #[.string ⟨#[]⟩, .string ⟨#[115, 105, 112]⟩, .string ⟨#[99]⟩, .string ⟨#[100]⟩, .int .i64 5070, .slice a1 0 c1, .slice a2 0 c2, .slice none 0 0]
  replace br := br.alloc (.cells #[.string ⟨#[]⟩, .string ⟨#[115, 105, 112]⟩, .string ⟨#[99]⟩, .string ⟨#[100]⟩, .int .i64 5070, .slice a1 0 c1, .slice a2 0 c2, .slice none 0 0] 26)
  have HBr := Lib.hid br
  have HBc := Lib.hid bc
  have hs : w.heap.size < w6.heap.size := hlt6
  clear r1 r2 r3 r4 r5 r6 r7 r8 br bc hB5
  obtain ⟨x0, x1, x2, x3, x4, x5⟩ := blk_f6 bu
  obtain ⟨f0, f1, f2, f3, f4, f5, f6, f7, _, _, _, _, _, _, _, _, zR⟩ := blk_h8 bf
  obtain ⟨t0, t1, t2, t3, t4, t5, t6, t7, _, _, _, _, _, _, _, _, zT⟩ := blk_h8 bt
  go_wp2_with (refine wpList_storeB (vs := #[.string ⟨#[83, 85, 66, 83, 67, 82, 73, 66, 69]⟩, (.string ⟨#[]⟩), (.string ⟨#[]⟩), (.string ⟨#[]⟩), (.int .i64 0), (.slice none 0 0), (.slice none 0 0), (.string ⟨#[]⟩), (.string ⟨#[]⟩), .string ⟨#[]⟩, .string ⟨#[115, 105, 112]⟩, .string ⟨#[99]⟩, .string ⟨#[100]⟩, .int .i64 0, .slice a3 0 c3, .slice a4 0 c4, .slice a5 1 c5, .string ⟨#[]⟩, .string ⟨#[115, 105, 112]⟩, .string ⟨#[97]⟩, .string ⟨#[98]⟩, .int .i64 0, .slice a6 0 c6, .slice a7 0 c7, .slice a8 0 c8, .string ⟨#[49]⟩, (.string ⟨#[]⟩), .string ⟨#[57]⟩, .int .i64 7, (.int .i64 0), (.string ⟨#[]⟩), (.slice none 0 0), .slice (some ⟨w6.heap.size, 0, none⟩) 1 1, (.slice none 0 0), (.slice none 0 0), (.string ⟨#[]⟩), (.string ⟨#[]⟩), (.string ⟨#[]⟩)]) (cs' := #[.string ⟨#[83, 85, 66, 83, 67, 82, 73, 66, 69]⟩, (.string ⟨#[]⟩), (.string ⟨#[]⟩), (.string ⟨#[]⟩), (.int .i64 0), (.slice none 0 0), (.slice none 0 0), (.string ⟨#[]⟩), (.string ⟨#[]⟩), .string ⟨#[]⟩, .string ⟨#[115, 105, 112]⟩, .string ⟨#[99]⟩, .string ⟨#[100]⟩, .int .i64 0, .slice a3 0 c3, .slice a4 0 c4, .slice a5 1 c5, .string ⟨#[]⟩, .string ⟨#[115, 105, 112]⟩, .string ⟨#[97]⟩, .string ⟨#[98]⟩, .int .i64 0, .slice a6 0 c6, .slice a7 0 c7, .slice a8 0 c8, .string ⟨#[49]⟩, (.string ⟨#[]⟩), .string ⟨#[57]⟩, .int .i64 7, (.int .i64 0), (.string ⟨#[]⟩), (.slice none 0 0), .slice (some ⟨w6.heap.size, 0, none⟩) 1 1, (.slice none 0 0), (.slice none 0 0), (.string ⟨#[]⟩), (.string ⟨#[]⟩), (.string ⟨#[]⟩)]) rfl rfl rfl rfl (by kernel_rfl) HBr.out (Nat.le_of_eq (by kernel_rfl)) (by kernel_rfl) (by kernel_rfl) ?_; intro w9 bz9 hfar9 hsz9 hbel9)
  refine bodyPost_ret (results_c rfl rfl Tryz.underlying32 (by kernel_rfl) bz9) rfl ?_
  have hBf := ((HB.out.alloc HB.out.size _).trans (hbel9 _ (Nat.le_refl _)))
  have bc9 : Blk w9 w6.heap.size 26 #[.string ⟨#[]⟩, .string ⟨#[115, 105, 112]⟩, .string ⟨#[99]⟩, .string ⟨#[100]⟩, .int .i64 5070, .slice a1 0 c1, .slice a2 0 c2, .slice none 0 0] := (hfar9 _ (by omega)).trans HBc.out
  have hA : Below w6.heap.size w6 (w6.alloc (.cells #[.string ⟨#[]⟩, .string ⟨#[115, 105, 112]⟩, .string ⟨#[99]⟩, .string ⟨#[100]⟩, .int .i64 5070, .slice a1 0 c1, .slice a2 0 c2, .slice none 0 0] 26)) := (Below.refl _ _).alloc (Nat.le_refl _) _
  obtain ⟨r1, r2, r3, r4, r5, r6, r7, r8⟩ := HR.out
  have hs9 := Nat.le_of_eq hsz9.symm
  replace r1 := Off.prms (r1.below hA (Nat.le_refl _)) (Off.zero _ _ _) hfar9 hs9
  replace r2 := Off.prms (r2.below hA (Nat.le_refl _)) (Off.zero _ _ _) hfar9 hs9
  replace r3 := Off.prms (r3.below hA (Nat.le_refl _)) (Off.zero _ _ _) hfar9 hs9
  replace r4 := Off.prms (r4.below hA (Nat.le_refl _)) (Off.zero _ _ _) hfar9 hs9
  replace r5 := Off.prms (r5.below hA (Nat.le_refl _)) o5 hfar9 hs9
  replace r6 := Off.prms (r6.below hA (Nat.le_refl _)) (Off.zero _ _ _) hfar9 hs9
  replace r7 := Off.prms (r7.below hA (Nat.le_refl _)) (Off.zero _ _ _) hfar9 hs9
  replace r8 := Off.prms (r8.below hA (Nat.le_refl _)) (Off.zero _ _ _) hfar9 hs9
  have hlt9 := bc9.lt
  refine ⟨_, rfl, by kernel_rfl, (show _ = true by kernel_rfl), (show _ = true by kernel_rfl), ⟨(.string ⟨#[83, 85, 66, 83, 67, 82, 73, 66, 69]⟩), (.string ⟨#[]⟩), (.string ⟨#[]⟩), (.string ⟨#[]⟩), (.int .i64 0), (.slice none 0 0), (.slice none 0 0), (.string ⟨#[]⟩), (.string ⟨#[]⟩), (.int .i64 0), (.string ⟨#[]⟩), (.slice none 0 0), (.slice none 0 0), (.string ⟨#[]⟩), (.string ⟨#[]⟩), (.string ⟨#[]⟩), (.slice a3 0 c3), (.slice a4 0 c4), (.slice a5 1 c5), (.slice a6 0 c6), (.slice a7 0 c7), (.slice a8 0 c8), (.slice (some ⟨w6.heap.size, 0, none⟩) 1 1), (.slice none 0 0), by kernel_rfl, r3, r4, r5, r6, r7, r8, .inr ⟨w6.heap.size, 0, 1, rfl, Nat.le_refl _, by decide, hlt9, ?_⟩, RStrs.emp _⟩, hBf⟩
  intro j hj
  obtain rfl : j = 0 := by have h : j < 1 := hj; omega
  exact ⟨boxedCell bc9 0, boxedCell bc9 1, boxedCell bc9 2, boxedCell bc9 3, boxedCell bc9 4, _, _, _, boxedCell bc9 5, boxedCell bc9 6, boxedCell bc9 7, r1, r2, RPrms.emp _⟩

end Go.Proofs.YtipdiddjhimdcaaGreatDoor

