/-
  addr.word, rosterref05.Word, addr.bad, rosterref05.may.
  Parameters of the call's own; addr.Fields.
  addr.Fields.
  rosterref05.Fields.
-/
import Derived.Test.YtbljmjbialinkaaDoorUri
import Derived.Test.YtbljmjbialinkaaDoorPrm
namespace Go.Proofs.YtbljmjbialinkaaDoor

section
open Go.RowKit

/-- may a value stand without quotes? -/
def wordS (l : List UInt8) : Bool := token l || hostS (lowr l)
theorem lowr_length (l : List UInt8) : (lowr l).length = l.length := by unfold lowr; simp
theorem hostS_len (l : List UInt8) (h : l.length = 0 ∨ 64 < l.length) : hostS (lowr l) = false := host_no _ (by rw [lowr_length]; rcases h with h | h <;> simp [h])
theorem word_long (l : List UInt8) (h : l.length = 0 ∨ 64 < l.length) (ht : token l = false) : wordS l = false := by unfold wordS; rw [ht, hostS_len l h]; rfl

def mayS (L : List Prm) (p : Prm) : Bool := token p.name && !(value L p.name).2 && decide (p.value.length ≤ 64) && ((quote p.value).2 == 0) && (p.has || p.value == [])
theorem may_token (L : List Prm) (p : Prm) (h : token p.name = false) : mayS L p = false := by unfold mayS; rw [h]; simp
theorem may_twice (L : List Prm) (p : Prm) (h : (value L p.name).2 = true) : mayS L p = false := by unfold mayS; rw [h]; simp
theorem may_long (L : List Prm) (p : Prm) (h : ¬ p.value.length ≤ 64) : mayS L p = false := by unfold mayS; rw [decide_eq_false h]; simp
theorem may_quote (L : List Prm) (p : Prm) (h : ((quote p.value).2 == 0) = false) : mayS L p = false := by unfold mayS; rw [h]; simp
theorem may_has (L : List Prm) (p : Prm) (h : p.has = false) (h' : ¬ p.value = []) : mayS L p = false := by unfold mayS; rw [h]; simp [h']
theorem may_yes (L : List Prm) (p : Prm) (h1 : token p.name = true) (h2 : (value L p.name).2 = false) (h3 : p.value.length ≤ 64) (h4 : ((quote p.value).2 == 0) = true) (h5 : p.has = true ∨ p.value = []) : mayS L p = true := by
  unfold mayS; rw [h1, h2, h4, decide_eq_true h3]
  rcases h5 with h | h <;> simp [h]
theorem place_neg (L : List Prm) (name : List UInt8) : decide (place L name < 0) = !(value L name).2 := by
  unfold place value
  rcases place_value name L 0 with ⟨h1, h2⟩ | ⟨j, hj, h1, h2⟩
  · rw [h1, h2]; rfl
  · rw [h1, h2]; simp

/-- the box of a struct of three cells, behind a call -/
theorem box3 {w w1 : World} {a b c : Value} {t : TypeId} (hC : Below (w.alloc (.cells #[a, b, c] t)).heap.size (w.alloc (.cells #[a, b, c] t)) w1) :
    w1.cell? ⟨w.heap.size, 0, none⟩ = some a ∧ w1.cell? ⟨w.heap.size, 1, none⟩ = some b ∧ w1.cell? ⟨w.heap.size, 2, none⟩ = some c ∧ w.heap.size < w1.heap.size ∧ Below w.heap.size w w1 := by
  have hs : (w.alloc (.cells #[a, b, c] t)).heap.size = w.heap.size + 1 := World.size_alloc _ _
  rw [hs] at hC
  obtain ⟨r0, r1, r2, _⟩ := boxed hC
  refine ⟨r0, r1, r2, by have := hC.size; omega, ((Below.refl _ _).alloc (Nat.le_refl _) _).trans (hC.mono (by omega))⟩
theorem box3n {w1 w2 : World} {g : Nat} {a b c : Value} (r0 : w1.cell? ⟨g, 0, none⟩ = some a) (r1 : w1.cell? ⟨g, 1, none⟩ = some b) (r2 : w1.cell? ⟨g, 2, none⟩ = some c) (hz : g < w1.heap.size) (hC : Below w1.heap.size w1 w2) :
    w2.cell? ⟨g, 0, none⟩ = some a ∧ w2.cell? ⟨g, 1, none⟩ = some b ∧ w2.cell? ⟨g, 2, none⟩ = some c ∧ g < w2.heap.size :=
  ⟨(hC.cell (p := ⟨g, 0, none⟩) hz).trans r0, (hC.cell (p := ⟨g, 1, none⟩) hz).trans r1, (hC.cell (p := ⟨g, 2, none⟩) hz).trans r2, Nat.lt_of_lt_of_le hz hC.size⟩

end

section
open Go.RowKit

/-- a slice of parameters of the call's own -/
def Prms (w : World) (base : Nat) (v : Value) (L : List Prm) : Prop := w.ownsRow base 90 3 v L.length (L.flatMap Prm.cells)
theorem Prms.nil (w : World) (base : Nat) : Prms w base (.slice none 0 0) [] := World.ownsRow_nil w base _ 3
theorem flat_at : ∀ (L : List Prm) (j : Nat) (hj : j < L.length) (i : Nat), i < 3 → (L.flatMap Prm.cells)[j * 3 + i]? = L[j].cells[i]?
  | p :: r, 0, _, i, hi => by
    rw [List.flatMap_cons, Nat.zero_mul, Nat.zero_add, List.getElem?_append_left (by simpa [Prm.cells] using hi)]; rfl
  | p :: r, j + 1, hj, i, hi => by
    rw [List.flatMap_cons, List.getElem?_append_right (by simp [Prm.cells]; omega)]
    have : (j + 1) * 3 + i - p.cells.length = j * 3 + i := by simp [Prm.cells]; omega
    rw [this]
    exact flat_at r j (by simpa using hj) i hi
theorem RPrms.of_row {w : World} {v : Value} {L : List Prm} (h : RRow w v L.length (L.flatMap Prm.cells)) : RPrms w v L := by
  rcases h with ⟨h1, h2, _⟩ | ⟨b, off, cap, h1, h2, h2', h3, h4⟩
  · exact .inl ⟨h1, List.eq_nil_of_length_eq_zero h2⟩
  · refine .inr ⟨b, off, cap, h1, h2, h2', h3, fun j hj => ⟨?_, ?_, ?_⟩⟩
    · exact h4 (j * 3) _ (flat_at L j hj 0 (by decide))
    · exact h4 (j * 3 + 1) _ (flat_at L j hj 1 (by decide))
    · exact h4 (j * 3 + 2) _ (flat_at L j hj 2 (by decide))
theorem Prms.read {w : World} {base : Nat} {v : Value} {L : List Prm} (h : Prms w base v L) : RPrms w v L := RPrms.of_row (RRow.of_own h)
theorem Prms.below {w w' : World} {base B : Nat} {v : Value} {L : List Prm} (h : Prms w base v L) (hB : Below B w w') (hs : w.heap.size ≤ B) : Prms w' base v L := by
  refine ⟨h.1, ?_⟩
  rcases h.2 with hn | ⟨g, cap, cur, rfl, hb, hgg, rest⟩
  · exact .inl hn
  · refine .inr ⟨g, cap, cur, rfl, hb, ?_, rest⟩
    have hlt := (Array.getElem?_eq_some_iff.1 hgg).1
    rw [hB.block g (by omega)]; exact hgg
/-- a slice value that lies from block B on, or nowhere -/
def Fresh (B : Nat) (u : Value) : Prop := ∀ a n c, u = .slice (some a) n c → B ≤ a.block
theorem Fresh.nil (B n c : Nat) : Fresh B (.slice none n c) := fun _ _ _ h => by cases h
theorem Fresh.mono {B B' : Nat} {u : Value} (h : Fresh B u) (hB : B' ≤ B) : Fresh B' u := fun a n c e => Nat.le_trans hB (h a n c e)
theorem Prms.fresh {w : World} {base : Nat} {v : Value} {L : List Prm} (h : Prms w base v L) : Fresh base v := by
  rcases h.2 with ⟨rfl, _⟩ | ⟨g, cap, cur, rfl, hb, _⟩
  · exact Fresh.nil _ _ _
  · intro a n c e
    injection e with e
    injection e with e
    rw [← e]; exact hb
theorem RPrms.set {w : World} {B : Nat} {u : Value} {L : List Prm} (h : RPrms w u L) (hF : Fresh B u) {p : Addr} (hp : p.block < B) (x : Value) : RPrms (w.setCell p x) u L := by
  rcases h with h | ⟨b, off, cap, h1, h2, h2', h3, h4⟩
  · exact .inl h
  · refine .inr ⟨b, off, cap, h1, h2, h2', by simpa using h3, fun j hj => ?_⟩
    have hne : B ≤ b := hF ⟨b, off, none⟩ _ _ h1
    have hk : ∀ o, (w.setCell p x).cell? ⟨b, o, none⟩ = w.cell? ⟨b, o, none⟩ := fun o => World.cell?_setCell_other w p ⟨b, o, none⟩ x (fun e => by rw [e] at hp; exact absurd hp (by show ¬ b < B; omega))
    rw [hk, hk, hk]
    exact h4 j hj
theorem infoP : infoIs Tryd.prog 90 (.agg #[.string ⟨#[]⟩, .string ⟨#[]⟩, .bool false]) 3 40 := by unfold infoIs; kernel_rfl

section
variable {P : Program} {ops : Array Oper} {rest : List Oper} {o : Oper} {a : Act} {Q : Exit → Act → World → Prop}
theorem wpList_appP1 {wE w : World} {base : Nat} {t : TypeId} {v : Value} {L : List Prm} {s x : Operand} {N V : ByteArray} {h : Bool} (p : Prm) (hN : us N = p.name) (hV : us V = p.value) (hh : h = p.has)
    (hgd : o.guard = none) (ho : o.op = .call { callee := .builtin .append, args := #[s, x], argTypes := #[t, t] })
    (ht : P.underlying t = some (.slice 90)) (hi : infoIs P 90 (.agg #[.string ⟨#[]⟩, .string ⟨#[]⟩, .bool false]) 3 40)
    (hx : a.eval x = .slice (some ⟨w.heap.size, 0, none⟩) 1 1) (hs : a.eval s = v) (hown : Prms w base v L) (hB : Below base wE w) (hbase : base ≤ wE.heap.size)
    (hbd : (L.length + 1) * 40 ≤ 140737488355328)
    (hk : ∀ v' w', Prms w' base v' (L ++ [p]) → Below base wE w' → wpList P ops Q rest (a.put o.dst v') w') :
    wpList P ops Q (o :: rest) a (w.alloc (.cells #[.string N, .string V, .bool h] 90)) := by
  subst hh
  refine wpList_app hgd ho ht hi rfl (by decide) hx hs hown hB hbase rfl (by simp; exact ⟨rfl, rfl, rfl⟩) (by decide) hbd ?_
  intro v' w' h1 h2 _ _
  refine hk v' w' ?_ h2
  unfold Prms
  have e : L.flatMap Prm.cells ++ #[Value.string N, Value.string V, Value.bool p.has].toList = (L ++ [p]).flatMap Prm.cells := by
    rw [List.flatMap_append]; simp [Prm.cells, sv, ← hN, ← hV]
  rw [← e, List.length_append]; exact h1
end

/-- a parameter that may stand behind others -/
def chk (L : List Prm) (p : Prm) : Option Prm := if mayS L p = true then some p else none
/-- the parameter that a part of a text is -/
def fieldOf (L : List Prm) (n0 v0 : List UInt8) (has : Bool) : Option Prm :=
  if opens 34 (trim v0) = true then (if (unquote (trim v0)).2 = 0 then chk L ⟨trim n0, (unquote (trim v0)).1, has⟩ else none)
  else if has = true ∧ wordS (trim v0) = false then none else chk L ⟨trim n0, trim v0, has⟩
def field (L : List Prm) (x : List UInt8) : Option Prm := fieldOf L (cutb 61 x).1 (cutb 61 x).2.1 (cutb 61 x).2.2
def fieldsGo (L : List Prm) : List (List UInt8) → Option (List Prm)
  | [] => some L
  | x :: r => (field L x).bind fun p => fieldsGo (L ++ [p]) r
def okL (e : Int) : Option (List Prm) → List Prm × Int
  | some r => (r, 0)
  | none => ([], e)
/-- the parameters that some parts are -/
def fieldsS (parts : List (List UInt8)) : List Prm × Int := if 16 < parts.length then ([], 4) else okL 34 (fieldsGo [] parts)

theorem unqGo_len : ∀ (l r : List UInt8), unqGo l = some r → r.length ≤ l.length
  | [], r, h => by unfold unqGo at h; injection h with h; rw [← h]; exact Nat.le_refl _
  | [c], r, h => by
    unfold unqGo at h
    split at h
    · injection h with h; rw [← h]; exact Nat.le_refl _
    · cases h
  | c :: d :: t, r, h => by
    unfold unqGo at h
    split at h
    · split at h
      · cases h
      · cases hq : unqGo t with
        | none => rw [hq] at h; cases h
        | some y => rw [hq] at h; injection h with h; rw [← h]; have := unqGo_len t y hq; simp; omega
    · split at h
      · cases hq : unqGo (d :: t) with
        | none => rw [hq] at h; cases h
        | some y => rw [hq] at h; injection h with h; rw [← h]; have := unqGo_len (d :: t) y hq; simp at this ⊢; omega
      · cases h
theorem unquote_len (l : List UInt8) : (unquote l).1.length ≤ l.length := by
  unfold unquote
  split
  · exact Nat.zero_le _
  · cases hq : unqGo ((l.drop 1).take (l.length - 2)) with
    | none => exact Nat.zero_le _
    | some y =>
      have := unqGo_len _ _ hq
      rw [List.length_take, List.length_drop] at this
      show y.length ≤ _
      omega
theorem mayS_len {L : List Prm} {p : Prm} (h : mayS L p = true) : p.name.length ≤ 64 ∧ p.value.length ≤ 64 := by
  unfold mayS token at h
  simp only [Bool.and_eq_true, decide_eq_true_eq] at h
  exact ⟨h.1.1.1.1.1.2, h.1.1.2⟩
theorem chk_len {L : List Prm} {p q : Prm} (h : chk L p = some q) : q = p ∧ p.name.length ≤ 64 ∧ p.value.length ≤ 64 := by
  unfold chk at h
  split at h
  · injection h with h; exact ⟨h.symm, mayS_len ‹_›⟩
  · cases h
theorem fields_step (L : List Prm) (Ps : List (List UInt8)) (k : Nat) (h : k < Ps.length) (hp : fieldsGo [] Ps = fieldsGo L (Ps.drop k)) : fieldsGo [] Ps = (field L Ps[k]).bind fun p => fieldsGo (L ++ [p]) (Ps.drop (k + 1)) := by
  rw [hp, List.drop_eq_getElem_cons h, fieldsGo]
theorem fields_bad (Ps : List (List UInt8)) (h16 : Ps.length ≤ 16) (h : fieldsGo [] Ps = none) : fieldsS Ps = ([], 34) := by
  unfold fieldsS; rw [if_neg (by omega), h]; rfl
theorem fields_end (L : List Prm) (Ps : List (List UInt8)) (h16 : Ps.length ≤ 16) (hp : fieldsGo [] Ps = fieldsGo L (Ps.drop Ps.length)) : fieldsS Ps = (L, 0) := by
  unfold fieldsS; rw [if_neg (by omega), hp, List.drop_length]; rfl
end

section
open Go.RowKit

/-- the box of a struct of three cells, behind a store to its middle and a call -/
theorem box3s {w2 w3 : World} {g : Nat} {a b c x : Value} (r0 : w2.cell? ⟨g, 0, none⟩ = some a) (r1 : w2.cell? ⟨g, 1, none⟩ = some b) (r2 : w2.cell? ⟨g, 2, none⟩ = some c) (hz : g < w2.heap.size)
    (hC : Below (w2.setCell ⟨g, 1, none⟩ x).heap.size (w2.setCell ⟨g, 1, none⟩ x) w3) :
    w3.cell? ⟨g, 0, none⟩ = some a ∧ w3.cell? ⟨g, 1, none⟩ = some x ∧ w3.cell? ⟨g, 2, none⟩ = some c ∧ g < w3.heap.size ∧ Below g w2 w3 := by
  have hs : (w2.setCell ⟨g, 1, none⟩ x).heap.size = w2.heap.size := by simp
  rw [hs] at hC
  refine ⟨?_, ?_, ?_, Nat.lt_of_lt_of_le hz (hs ▸ hC.size), ((Below.refl _ _).setCell (Nat.le_refl _) _).trans (hC.mono (Nat.le_of_lt hz))⟩
  · rw [hC.cell (p := ⟨g, 0, none⟩) hz, World.cell?_setCell_other w2 ⟨g, 1, none⟩ ⟨g, 0, none⟩ x (fun e => by injection e with _ e; cases e)]; exact r0
  · rw [hC.cell (p := ⟨g, 1, none⟩) hz]; exact World.cell?_setCell_same _ _ _ r1
  · rw [hC.cell (p := ⟨g, 2, none⟩) hz, World.cell?_setCell_other w2 ⟨g, 1, none⟩ ⟨g, 2, none⟩ x (fun e => by injection e with _ e; cases e)]; exact r2
theorem box3f {w w1 : World} {a b c : Value} {t : TypeId} (hC : Below (w.alloc (.cells #[a, b, c] t)).heap.size (w.alloc (.cells #[a, b, c] t)) w1) : w1.frozen? ⟨w.heap.size, 1, none⟩ = false := by
  have hs : (w.alloc (.cells #[a, b, c] t)).heap.size = w.heap.size + 1 := World.size_alloc _ _
  rw [hs] at hC
  exact (boxed hC).2.2.2.2.1

end

section
open Go.RowKit

theorem opens_yes (V : ByteArray) (n : UInt8) (h : opens n (us V) = true) : ∃ h : 0 < V.size, ((V[0].toNat : Int) == (n.toNat : Int)) = true := by
  rcases Nat.eq_zero_or_pos V.size with h0 | h0
  · rw [List.eq_nil_of_length_eq_zero ((length_us V).trans h0)] at h; cases h
  · refine ⟨h0, ?_⟩
    have := drop_us V 0 h0
    rw [List.drop_zero] at this
    rw [this] at h
    simp only [opens, beq_iff_eq] at h
    simp [h]
theorem opens_no (V : ByteArray) (n : UInt8) (h : opens n (us V) = false) : V.size = 0 ∨ ∃ h : 0 < V.size, ((V[0].toNat : Int) == (n.toNat : Int)) = false := by
  rcases Nat.eq_zero_or_pos V.size with h0 | h0
  · exact .inl h0
  · refine .inr ⟨h0, ?_⟩
    have := drop_us V 0 h0
    rw [List.drop_zero] at this
    rw [this] at h
    simp only [opens, beq_eq_false_iff_ne] at h
    rw [beq_eq_false_iff_ne]; omega

end

end Go.Proofs.YtbljmjbialinkaaDoor
