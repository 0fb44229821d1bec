/-
  Tuples and publications: how they lie in rows, and a tuple as a map's key.
-/
import Derived.Test.YtbljmjbialinkaaDoorCmM
import Derived.Test.YtbljmjbialinkaaDoorPiS
import Derived.Test.YtbljmjbialinkaaDoorUrl
import Derived.DeepKeys4
namespace Go.Proofs.YtbljmjbialinkaaDoor
set_option linter.unusedSimpArgs false
set_option linter.unusedVariables false
open Go.RowKit Go.Maps
open Go.WideMaps (keyOf_string_mk)

theorem flat_cells {α : Type} (row : α → List Value) (s : Nat) (hs : ∀ x, (row x).length = s) : ∀ (L : List α) (f : Nat → Option Value), (∀ i (hi : i < L.length) k, k < s → f (i * s + k) = (row L[i])[k]?) → ∀ j u, (L.flatMap row)[j]? = some u → f j = some u
  | [], f, _, j, u, h => by simp at h
  | x :: r, f, hf, j, u, h => by
    rw [List.flatMap_cons] at h
    by_cases hj : j < s
    · rw [List.getElem?_append_left (by rw [hs]; exact hj)] at h
      have := hf 0 (by simp) j hj
      rw [Nat.zero_mul, Nat.zero_add] at this
      rw [this]; exact h
    · rw [List.getElem?_append_right (by rw [hs]; omega), hs] at h
      have := flat_cells row s hs r (fun i => f (i + s)) (fun i hi k hk => by
        have := hf (i + 1) (by simpa using hi) k hk
        rw [Nat.add_mul, Nat.one_mul] at this
        rw [show i * s + k + s = i * s + s + k by omega, this]; rfl) (j - s) u h
      rw [show j - s + s = j by omega] at this
      exact this
theorem flat_row {α : Type} (row : α → List Value) (s : Nat) (hs : ∀ x, (row x).length = s) : ∀ (L : List α) (i : Nat) (hi : i < L.length) (k : Nat), k < s → (L.flatMap row)[i * s + k]? = (row L[i])[k]?
  | x :: r, 0, _, k, hk => by
    rw [List.flatMap_cons, Nat.zero_mul, Nat.zero_add, List.getElem?_append_left (by rw [hs]; exact hk)]; rfl
  | x :: r, i + 1, hi, k, hk => by
    rw [List.flatMap_cons, List.getElem?_append_right (by rw [hs, Nat.add_mul]; omega), hs, show (i + 1) * s + k - s = i * s + k by rw [Nat.add_mul]; omega]
    exact flat_row row s hs r i (by simpa using hi) k hk

def rowT (t : Tup) : List Value := [sv t.id, .bool t.opn, sv t.con, .int .i64 t.prio, sv t.note]
def Tup.val (t : Tup) : Value := .agg #[sv t.id, .bool t.opn, sv t.con, .int .i64 t.prio, sv t.note]
def TupBd (B : Nat) (t : Tup) : Prop := t.id.length ≤ B ∧ t.con.length ≤ B ∧ t.note.length ≤ B ∧ -9223372036854775808 ≤ t.prio ∧ t.prio ≤ 9223372036854775807
theorem TupBd.mono {B B' : Nat} {t : Tup} (h : TupBd B t) (hB : B ≤ B') : TupBd B' t := by
  obtain ⟨h1, h2, h3, h4⟩ := h
  exact ⟨by omega, by omega, by omega, h4⟩
/-- a slice of tuples that reads as L -/
def RTups (w : World) (v : Value) (L : List Tup) : Prop := RRow w v L.length (L.flatMap rowT)
/-- a slice of tuples of the call's own -/
def Tups (w : World) (base : Nat) (v : Value) (L : List Tup) : Prop := w.ownsRow base 39 5 v L.length (L.flatMap rowT)
theorem RTups.below {w w' : World} {B : Nat} {v : Value} {L : List Tup} (h : RTups w v L) (hB : Below B w w') (hs : w.heap.size ≤ B) : RTups w' v L := RRow.below h hB hs
theorem RTups.nil (w : World) : RTups w (.slice none 0 0) [] := RRow.nil w
theorem rowT_len (t : Tup) : (rowT t).length = 5 := rfl
theorem RTups.form {w : World} {v : Value} {L : List Tup} (h : RTups w v L) : ∃ ao cap, v = .slice ao L.length cap ∧ L.length ≤ maxLen ∧
    (0 < L.length → ∃ b off, ao = some ⟨b, off, none⟩ ∧ b < w.heap.size ∧ ∀ j (hj : j < L.length), w.cell? ⟨b, off + j * 5, none⟩ = some (sv L[j].id) ∧ w.cell? ⟨b, off + j * 5 + 1, none⟩ = some (.bool L[j].opn) ∧ w.cell? ⟨b, off + j * 5 + 2, none⟩ = some (sv L[j].con) ∧ w.cell? ⟨b, off + j * 5 + 3, none⟩ = some (.int .i64 L[j].prio) ∧ w.cell? ⟨b, off + j * 5 + 4, none⟩ = some (sv L[j].note)) := by
  rcases h with ⟨⟨ao, cap, rfl⟩, h2, h3⟩ | ⟨b, off, cap, rfl, h2, h2', h3, h4⟩
  · refine ⟨ao, cap, by rw [h2], by omega, fun h => by omega⟩
  · refine ⟨some ⟨b, off, none⟩, cap, rfl, Nat.le_trans h2 h2', fun _ => ⟨b, off, rfl, h3, fun j hj => ?_⟩⟩
    have hr := flat_row rowT 5 rowT_len L j hj
    exact ⟨h4 _ _ (hr 0 (by decide)), h4 _ _ (hr 1 (by decide)), h4 _ _ (hr 2 (by decide)), h4 _ _ (hr 3 (by decide)), h4 _ _ (hr 4 (by decide))⟩

/-- how a tuple is spelt as a key -/
def keyT (t : Tup) : Lit := .string (keyBytes [.string t.id, .bool t.opn, .string t.con, .int .i64 t.prio, .string t.note])
def keyS (l : List UInt8) : Lit := .string l
def goodS (l : List UInt8) : Prop := l.length ≤ 4294967280
def goodT (t : Tup) : Prop := TupBd 4294967280 t
theorem undMT : Tryd.prog.underlying 43 = some (.map 39 3) := by kernel_rfl
theorem lawT : Keyed Tryd.prog 39 := Keyed.of_law (deep_law_laid (show laidOutB Tryd.prog = true by kernel_rfl) (m := 3) (by omega) (of_decide_eq_true (by kernel_rfl)) (by kernel_rfl) (by kernel_rfl))
theorem i64_wf {n : Int} (h1 : -9223372036854775808 ≤ n) (h2 : n ≤ 9223372036854775807) : (Lit.int .i64 n).wf = true := WalkArith.wf_i64 ⟨h1, h2⟩
theorem key_str (l : List UInt8) (h : goodS l) : keyOf Tryd.prog 9 (sv l) = some (keyS l) := by
  unfold goodS at h
  have := keyOf_string_mk (P := Tryd.prog) (k := 9) undS (s := bs l) (by rw [size_bs]; unfold maxLen; omega)
  unfold sv
  rw [this]; simp [bs, keyS]
theorem key_tup (t : Tup) (h : goodT t) : keyOf Tryd.prog 39 t.val = some (keyT t) := by
  obtain ⟨h1, h2, h3, h4, h5⟩ := h
  have hw := i64_wf h4 h5
  have hk : Tryd.prog.keyType 39 = true := by kernel_rfl
  have hn : ∃ n, Tryd.prog.types.size + 1 = n + 2 := ⟨Tryd.prog.types.size - 1, by have : 0 < Tryd.prog.types.size := of_decide_eq_true (by kernel_rfl); omega⟩
  obtain ⟨n, hn⟩ := hn
  have hl : Tryd.prog.keyLits (Tryd.prog.types.size + 1) 39 [sv t.id, .bool t.opn, sv t.con, .int .i64 t.prio, sv t.note] = some [.string t.id, .bool t.opn, .string t.con, .int .i64 t.prio, .string t.note] := by
    have c5 : Tryd.prog.cellsOf 39 = 5 := by kernel_rfl
    have cS : Tryd.prog.cellsOf 9 = 1 := by kernel_rfl
    have cB : Tryd.prog.cellsOf 4 = 1 := by kernel_rfl
    have cI : Tryd.prog.cellsOf 3 = 1 := by kernel_rfl
    have uB : Tryd.prog.underlying 4 = some .bool := by kernel_rfl
    have e1 : (bs t.id).data.toList = t.id := by simp [bs]
    have e2 : (bs t.con).data.toList = t.con := by simp [bs]
    have e3 : (bs t.note).data.toList = t.note := by simp [bs]
    have s1 : (bs t.id).size ≤ maxLen := by rw [size_bs]; unfold maxLen; omega
    have s2 : (bs t.con).size ≤ maxLen := by rw [size_bs]; unfold maxLen; omega
    have s3 : (bs t.note).size ≤ maxLen := by rw [size_bs]; unfold maxLen; omega
    have kS : ∀ l : List UInt8, (bs l).size ≤ maxLen → (bs l).data.toList = l → Tryd.prog.keyLits (n + 1) 9 [sv l] = some [.string l] := fun l hs he => by
      unfold Program.keyLits; simp only [undS, sv, hs, he, if_true]
    have kB : Tryd.prog.keyLits (n + 1) 4 [.bool t.opn] = some [.bool t.opn] := by
      unfold Program.keyLits; simp only [uB]
    have kI : Tryd.prog.keyLits (n + 1) 3 [.int .i64 t.prio] = some [.int .i64 t.prio] := by
      unfold Program.keyLits; simp only [undI, hw, and_self, if_true]
    rw [hn]
    unfold Program.keyLits
    simp only [Tryd.underlying39, c5]
    rw [if_pos ⟨rfl, by kernel_rfl⟩]
    simp only [List.mapM_cons, List.mapM_nil, cS, cB, cI, List.drop_zero, List.drop_succ_cons, List.take_succ_cons, List.take_zero, kS _ s1 e1, kB, kS _ s2 e2, kI, kS _ s3 e3]
    rfl
  have hf : t.val.formed Tryd.prog 39 = true := by
    have c5 : Tryd.prog.cellsOf 39 = 5 := by kernel_rfl
    simp [Value.formed, Tup.val, Tryd.underlying39, c5]
  have hc : t.val.cells.toList = [sv t.id, .bool t.opn, sv t.con, .int .i64 t.prio, sv t.note] := rfl
  unfold keyOf
  rw [Tryd.underlying39]
  dsimp only
  rw [hk, hf, hc, hl]; rfl
theorem isKey_T (t : Tup) (h : goodT t) : WideAt.IsKeyLit (keyT t) := lawT.key (key_tup t h)
theorem isKey_S (l : List UInt8) (h : goodS l) : WideAt.IsKeyLit (keyS l) := lawS.key (key_str l h)
theorem sv_inj {a b : List UInt8} (h : sv a = sv b) : a = b := by
  injection h with h
  have := congrArg us h
  rwa [us_bs, us_bs] at this
theorem keyT_inj (a b : Tup) (ha : goodT a) (hb : goodT b) (h : keyT a = keyT b) : a = b := by
  have := lawT.inj (key_tup a ha) (by rw [h]; exact key_tup b hb)
  unfold Tup.val at this
  injection this with this
  have e := congrArg Array.toList this
  simp only [List.cons.injEq, and_true] at e
  obtain ⟨e1, e2, e3, e4, e5⟩ := e
  obtain ⟨a1, a2, a3, a4, a5⟩ := a
  obtain ⟨b1, b2, b3, b4, b5⟩ := b
  injection e2 with e2
  injection e4 with _ e4
  have e1 := sv_inj e1
  have e3 := sv_inj e3
  have e5 := sv_inj e5
  dsimp only at e1 e2 e3 e4 e5
  rw [e1, e2, e3, e4, e5]
theorem keyS_inj (a b : List UInt8) (_ : goodS a) (_ : goodS b) (h : keyS a = keyS b) : a = b := by injection h
abbrev CntS (D : DataW Unit) (L : List (List UInt8)) : Prop := CntA keyS goodS D L
abbrev CntT (D : DataW Unit) (L : List Tup) : Prop := CntA keyT goodT D L
theorem cntS_step {D : DataW Unit} {L : List (List UInt8)} (h : CntS D L) (a : List UInt8) (ha : goodS a) : CntS (D.put (keyS a) (.lit (.int .i64 ((cntN L a : Int) + 1)))) (L ++ [a]) := cntA_step isKey_S keyS_inj h a ha
theorem cntT_step {D : DataW Unit} {L : List Tup} (h : CntT D L) (a : Tup) (ha : goodT a) : CntT (D.put (keyT a) (.lit (.int .i64 ((cntN L a : Int) + 1)))) (L ++ [a]) := cntA_step isKey_T keyT_inj h a ha

/-- a publication in seven cells -/
def PubAt (w : World) (b o : Nat) (p : Pb) : Prop :=
  w.cell? ⟨b, o, none⟩ = some (.int .i64 p.num) ∧ (∃ S, w.cell? ⟨b, o + 1, none⟩ = some (.string S)) ∧ (∃ S, w.cell? ⟨b, o + 2, none⟩ = some (.string S)) ∧ (∃ n : Int, w.cell? ⟨b, o + 3, none⟩ = some (.int .i64 n)) ∧
  w.cell? ⟨b, o + 4, none⟩ = some (sv p.doc.ent) ∧ ∃ u1 u2, w.cell? ⟨b, o + 5, none⟩ = some u1 ∧ w.cell? ⟨b, o + 6, none⟩ = some u2 ∧ RTups w u1 p.doc.tups ∧ RStrs w u2 p.doc.notes
theorem PubAt.below {w w' : World} {B b o : Nat} {p : Pb} (h : PubAt w b o p) (hB : Below B w w') (hs : w.heap.size ≤ B) (hb : b < B) : PubAt w' b o p := by
  unfold PubAt
  obtain ⟨a0, ⟨S1, a1⟩, ⟨S2, a2⟩, ⟨n3, a3⟩, a4, u1, u2, a5, a6, k1, k2⟩ := h
  rw [hB.cell (p := ⟨b, o, none⟩) hb, hB.cell (p := ⟨b, o + 1, none⟩) hb, hB.cell (p := ⟨b, o + 2, none⟩) hb, hB.cell (p := ⟨b, o + 3, none⟩) hb, hB.cell (p := ⟨b, o + 4, none⟩) hb, hB.cell (p := ⟨b, o + 5, none⟩) hb, hB.cell (p := ⟨b, o + 6, none⟩) hb]
  exact ⟨a0, ⟨S1, a1⟩, ⟨S2, a2⟩, ⟨n3, a3⟩, a4, u1, u2, a5, a6, k1.below hB hs, RRow.below k2 hB hs⟩
/-- a slice of publications that reads as L -/
def RPubs (w : World) (v : Value) (L : List Pb) : Prop :=
  ((∃ ao cap, v = .slice ao 0 cap) ∧ L = []) ∨
  ∃ b off cap, v = .slice (some ⟨b, off, none⟩) L.length cap ∧ L.length ≤ cap ∧ cap ≤ maxLen ∧ b < w.heap.size ∧ ∀ j (hj : j < L.length), PubAt w b (off + j * 7) L[j]
theorem RPubs.below {w w' : World} {B : Nat} {v : Value} {L : List Pb} (h : RPubs w v L) (hB : Below B w w') (hs : w.heap.size ≤ B) : RPubs w' v L := by
  rcases h with h | ⟨b, off, cap, h1, h2, h2', h3, h4⟩
  · exact .inl h
  · exact .inr ⟨b, off, cap, h1, h2, h2', Nat.lt_of_lt_of_le h3 hB.size, fun j hj => (h4 j hj).below hB hs (by omega)⟩
theorem RPubs.form {w : World} {v : Value} {L : List Pb} (h : RPubs w v L) : ∃ ao cap, v = .slice ao L.length cap ∧ L.length ≤ maxLen ∧
    (0 < L.length → ∃ b off, ao = some ⟨b, off, none⟩ ∧ b < w.heap.size ∧ ∀ j (hj : j < L.length), PubAt w b (off + j * 7) L[j]) := by
  rcases h with ⟨⟨ao, cap, rfl⟩, rfl⟩ | ⟨b, off, cap, rfl, h2, h2', h3, h4⟩
  · exact ⟨ao, cap, rfl, Nat.zero_le _, fun h => by simp at h⟩
  · exact ⟨some ⟨b, off, none⟩, cap, rfl, Nat.le_trans h2 h2', fun _ => ⟨b, off, rfl, h3, h4⟩⟩
def DocBd (B : Nat) (d : Doc) : Prop := d.ent.length ≤ B ∧ (∀ t ∈ d.tups, TupBd B t) ∧ ∀ n ∈ d.notes, n.length ≤ B
def PubBd (B : Nat) (p : Pb) : Prop := (-9223372036854775808 ≤ p.num ∧ p.num ≤ 9223372036854775807) ∧ DocBd B p.doc
/-- a document by value -/
def RDoc (w : World) (v : Value) (d : Doc) : Prop := ∃ u1 u2, v = .agg #[sv d.ent, u1, u2] ∧ RTups w u1 d.tups ∧ RStrs w u2 d.notes
theorem RDoc.below {w w' : World} {B : Nat} {v : Value} {d : Doc} (h : RDoc w v d) (hB : Below B w w') (hs : w.heap.size ≤ B) : RDoc w' v d := by
  obtain ⟨u1, u2, rfl, h1, h2⟩ := h
  exact ⟨u1, u2, rfl, h1.below hB hs, RRow.below h2 hB hs⟩

end Go.Proofs.YtbljmjbialinkaaDoor
