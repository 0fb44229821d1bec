/-
  Laws of the walk for what a call makes itself: byte buffers and rows that grow by append, blocks of cells, []byte(s), string(b).
-/
import Derived.Test.YteiafgoigfehgaaDoorSpecA
import Derived.WalkKit
import Derived.WalkSpells
import Derived.WalkLawsBesides
import Derived.Lib.Hide
import Derived.Deep.QuietTactic
import Derived.BigQuiet
import Derived.WalkSmall
import Derived.Lib.ConvBytes
import Derived.Laws.IdiomStrings
namespace Go.Proofs.YteiafgoigfehgaaDoor
open Go.RowKit

/-- a byte as a cell -/
def bv (c : UInt8) : Value := .int .u8 c.toNat
@[simp] theorem bv_one (c : UInt8) : (bv c).oneCell' = true := rfl

/-- the world after some draws: nothing in memory has turned -/
def Drn (w w' : World) : Prop := ∃ n, w' = w.drewN n
theorem Drn.refl (w : World) : Drn w w := ⟨0, rfl⟩
theorem Drn.trans {a b c : World} (h : Drn a b) (k : Drn b c) : Drn a c := by
  obtain ⟨n, rfl⟩ := h; obtain ⟨m, rfl⟩ := k; exact ⟨n + m, World.drewN_drewN _ _ _⟩
theorem Drn.step {a b : World} (h : Drn a b) (n : Nat) : Drn a (b.drewN n) := h.trans ⟨n, rfl⟩
theorem Drn.below {B : Nat} {a b : World} (h : Drn a b) : Below B a b := by
  obtain ⟨n, rfl⟩ := h; exact below_drewN (Below.refl _ _) n
theorem quiet_same {P : Program} {f : FuncId} {args : Array Value} {w : World} {n : Nat} {v : Value}
    (h : Calls P f args (w.drewN n) fun e w' => e = .returned v ∧ w.drewN n = w') : Calls P f args (w.drewN n) fun e w'' => e = .returned v ∧ ∃ m, w'' = w.drewN m :=
  Calls.quiet_of_same (h.mono fun _ _ ⟨a, b⟩ => ⟨a, b.symm⟩)

/-- a byte buffer of the call's own that holds l -/
def Byt (w : World) (base : Nat) (e : TypeId) (v : Value) (l : List UInt8) : Prop := w.ownsRow base e 1 v l.length (l.map bv)
theorem Byt.nil (w : World) (base : Nat) (e : TypeId) : Byt w base e (.slice none 0 0) [] := World.ownsRow_nil w base e 1
theorem Byt.drew {w : World} {base : Nat} {e : TypeId} {v : Value} {l : List UInt8} (h : Byt w base e v l) : Byt w.drew base e v l := h
theorem Byt.cast {w : World} {base : Nat} {e : TypeId} {v : Value} {l m : List UInt8} (h : Byt w base e v l) (hlm : l = m) : Byt w base e v m := hlm ▸ h

/-- what an element type's row of the table says: its zero value's cells, how many cells, how many bytes -/
def infoIs (P : Program) (e : TypeId) (z : Value) (size bytes : Nat) : Prop :=
  (P.info? e).map (fun i => (i.zero, i.size, i.bytes)) = some (some z, size, bytes)

section
variable {P : Program} {ops : Array Oper} {rest : List Oper} {o : Oper} {a : Act} {Q : Exit → Act → World → Prop}

/-- append of a row that has just been laid, to a row of the call's own -/
theorem op_app {K : Act → World → Prop} {wE w : World} {base : Nat} {e t : TypeId} {z : Value} {size bytes : Nat} {v : Value} {n : Nat} {xs : List Value} {s x : Operand} {news : Array Value} {m : Nat}
    (ho : o.op = .call { callee := .builtin .append, args := #[s, x], argTypes := #[t, t] })
    (ht : P.underlying t = some (.slice e)) (hi : infoIs P e z size bytes) (hzs : z.cells.size = size) (hsz : 0 < size)
    (hx : a.eval x = .slice (some ⟨w.heap.size, 0, none⟩) m m) (hs : a.eval s = v) (hown : w.ownsRow base e size v n xs) (hB : Below base wE w) (hbase : base ≤ wE.heap.size)
    (hm : news.size = m * size) (h1 : ∀ u ∈ news.toList, u.oneCell' = true) (hbytes : 0 < bytes) (hbd : (n + m) * bytes ≤ 140737488355328)
    (h : ∀ v' w', w'.ownsRow base e size v' (n + m) (xs ++ news.toList) → Below base wE w' → (0 < n + m → v' ≠ .slice none 0 0) → w.heap.size ≤ w'.heap.size → K (a.put o.dst v') w') :
    o.wp P a (w.alloc (.cells news e)) K Q := by
  obtain ⟨i, hi0, hi1, hi2, hi3⟩ := info_parts hi
  have hnm : n + m ≤ (n + m) * bytes := Nat.le_mul_of_pos_right _ hbytes
  have hsz2 := hB.size
  refine wp_append_own _ s x t ho base e i z size bytes ht hi0 hi1 hi2 hi3 hzs hsz v n xs hs (hown.alloc _) ⟨w.heap.size, 0, none⟩ m m news.toList hx (by simpa using hm) ?_ h1 (by simp only [maxLen]; omega) hbd (by simp; omega) ?_
  · intro j u hu
    have hadd : (⟨w.heap.size, 0, none⟩ : Addr).add j = ⟨w.heap.size, j, none⟩ := by unfold Addr.add; split <;> simp_all
    rw [hadd, World.cell?_alloc_at _ _ _ _ rfl]
    simpa using hu
  · intro v' w' ho' hg hnil
    have hB' : Below base wE (w.alloc (.cells news e)) := hB.alloc (by omega) _
    refine h v' w' ho' (hB'.grown hg (by simp; omega) ?_) ?_ ?_
    · intro k hk; exact ((hown.lt) k hk).1
    · intro hp e0
      have := hnil.1 e0
      have hn0 : n = 0 := by
        have := hown.2
        rcases this with ⟨_, h⟩ | ⟨g, c, cur, hv, _⟩
        · exact h
        · rw [hv] at this; simp_all
      omega
    · have := hg.size; simp at this; omega

theorem wpList_app {wE w : World} {base : Nat} {e t : TypeId} {z : Value} {size bytes : Nat} {v : Value} {n : Nat} {xs : List Value} {s x : Operand} {news : Array Value} {m : Nat}
    (hgd : o.guard = none) (ho : o.op = .call { callee := .builtin .append, args := #[s, x], argTypes := #[t, t] })
    (ht : P.underlying t = some (.slice e)) (hi : infoIs P e z size bytes) (hzs : z.cells.size = size) (hsz : 0 < size)
    (hx : a.eval x = .slice (some ⟨w.heap.size, 0, none⟩) m m) (hs : a.eval s = v) (hown : w.ownsRow base e size v n xs) (hB : Below base wE w) (hbase : base ≤ wE.heap.size)
    (hm : news.size = m * size) (h1 : ∀ u ∈ news.toList, u.oneCell' = true) (hbytes : 0 < bytes) (hbd : (n + m) * bytes ≤ 140737488355328)
    (h : ∀ v' w', w'.ownsRow base e size v' (n + m) (xs ++ news.toList) → Below base wE w' → (0 < n + m → v' ≠ .slice none 0 0) → w.heap.size ≤ w'.heap.size → wpList P ops Q rest (a.put o.dst v') w') :
    wpList P ops Q (o :: rest) a (w.alloc (.cells news e)) :=
  wpList_plain hgd fun _ hK => op_app ho ht hi hzs hsz hx hs hown hB hbase hm h1 hbytes hbd fun v' w' a b c d => hK _ _ (h v' w' a b c d)

/-- one operation of a region that draws its order -/
theorem step_of {K : Act → World → Prop} {w : World} {E : Prop} (hg : o.guard = none) (h : o.wp P a w K Q) :
    if Region.wanted o (yielded ops a.tmps) = true then Oper.wp P o a w K Q else E := by
  have hw : Region.wanted o (yielded ops a.tmps) = true := by simp [Region.wanted, hg]
  rw [if_pos hw]; exact h
/-- a call that leaves the world alone, as one operation of a region that draws its order -/
theorem step_call {K : Act → World → Prop} {w : World} {E : Prop} {f : FuncId} {xs : Array Operand} {ts : Array TypeId} {args : Array Value} {v : Value}
    (hg : o.guard = none) (ho : o.op = .call { callee := .value (.func f), args := xs, argTypes := ts })
    {fn : Func} (hf : P.funcs[f]? = some fn) (hnm : (fn.name == "runtime.NumGoroutine") = false) (hbd : fn.body.isNone = false)
    (hx : xs.map a.eval = args) (hC : Calls P f args w fun e w' => e = .returned v ∧ w = w') (hK : K (a.put o.dst v) w) :
    if Region.wanted o (yielded ops a.tmps) = true then Oper.wp P o a w K Q else E := by
  refine step_of hg ?_
  subst hx
  unfold Oper.wp
  have h1 : fn.name ≠ "runtime.NumGoroutine" := by simpa using hnm
  have h2 : fn.body ≠ none := by intro e; rw [e] at hbd; cases hbd
  have hrun : (execOp a.eval o).run P w = .ok (.enter f (xs.map a.eval)) w := by
    simp [execOp, ho, resolve, Deferred.ofValue, invoke, callFunc, Act.eval, hf, h1, h2, Result.andThen]
  rw [hrun]
  refine hC.mono ?_
  rintro e w' ⟨rfl, rfl⟩
  exact hK
theorem step_call1 {K : Act → World → Prop} {w : World} {E : Prop} {f : FuncId} {x : Operand} {ts : Array TypeId} {v0 v : Value}
    (hg : o.guard = none) (ho : o.op = .call { callee := .value (.func f), args := #[x], argTypes := ts }) {fn : Func} (hf : P.funcs[f]? = some fn) (hnm : (fn.name == "runtime.NumGoroutine") = false) (hbd : fn.body.isNone = false)
    (hx : a.eval x = v0) (hC : Calls P f #[v0] w fun e w' => e = .returned v ∧ w = w') (hK : K (a.put o.dst v) w) :
    if Region.wanted o (yielded ops a.tmps) = true then Oper.wp P o a w K Q else E :=
  step_call hg ho hf hnm hbd (by simp [hx]) hC hK

/-- append of some bytes to a byte buffer -/
theorem op_appB {K : Act → World → Prop} {wE w : World} {base : Nat} {e t : TypeId} {v : Value} {l : List UInt8} {s x : Operand} (cs : List UInt8)
    (ho : o.op = .call { callee := .builtin .append, args := #[s, x], argTypes := #[t, t] })
    (ht : P.underlying t = some (.slice e)) (hi : infoIs P e (.int .u8 0) 1 1)
    (hx : a.eval x = .slice (some ⟨w.heap.size, 0, none⟩) cs.length cs.length) (hs : a.eval s = v) (hown : Byt w base e v l) (hB : Below base wE w) (hbase : base ≤ wE.heap.size)
    (hbd : l.length + cs.length ≤ 140737488355328)
    (h : ∀ v' w', Byt w' base e v' (l ++ cs) → Below base wE w' → K (a.put o.dst v') w') :
    o.wp P a (w.alloc (.cells (cs.map bv).toArray e)) K Q := by
  refine op_app ho ht hi rfl (by decide) hx hs hown hB hbase (by simp) (by simp) (by decide) (by omega) ?_
  intro v' w' h1 h2 _ _
  refine h v' w' ?_ h2
  unfold Byt; simpa using h1
theorem wpList_appB {wE w : World} {base : Nat} {e t : TypeId} {v : Value} {l : List UInt8} {s x : Operand} (cs : List UInt8)
    (hgd : o.guard = none) (ho : o.op = .call { callee := .builtin .append, args := #[s, x], argTypes := #[t, t] })
    (ht : P.underlying t = some (.slice e)) (hi : infoIs P e (.int .u8 0) 1 1)
    (hx : a.eval x = .slice (some ⟨w.heap.size, 0, none⟩) cs.length cs.length) (hs : a.eval s = v) (hown : Byt w base e v l) (hB : Below base wE w) (hbase : base ≤ wE.heap.size)
    (hbd : l.length + cs.length ≤ 140737488355328)
    (h : ∀ v' w', Byt w' base e v' (l ++ cs) → Below base wE w' → wpList P ops Q rest (a.put o.dst v') w') :
    wpList P ops Q (o :: rest) a (w.alloc (.cells (cs.map bv).toArray e)) :=
  wpList_plain hgd fun _ hK => op_appB cs ho ht hi hx hs hown hB hbase hbd fun v' w' a b => hK _ _ (h v' w' a b)
/-- the same in a region that draws its order, at one byte and at three -/
theorem step_appB1 {K : Act → World → Prop} {E' : Prop} {wE w : World} {base : Nat} {e t : TypeId} {v : Value} {l : List UInt8} {s x : Operand} {E : Int} (c : UInt8) (hE : E = (c.toNat : Int))
    (hgd : o.guard = none) (ho : o.op = .call { callee := .builtin .append, args := #[s, x], argTypes := #[t, t] })
    (ht : P.underlying t = some (.slice e)) (hi : infoIs P e (.int .u8 0) 1 1)
    (hx : a.eval x = .slice (some ⟨w.heap.size, 0, none⟩) 1 1) (hs : a.eval s = v) (hown : Byt w base e v l) (hB : Below base wE w) (hbase : base ≤ wE.heap.size)
    (hbd : l.length + 1 ≤ 140737488355328)
    (h : ∀ v' w', Byt w' base e v' (l ++ [c]) → Below base wE w' → K (a.put o.dst v') w') :
    if Region.wanted o (yielded ops a.tmps) = true then Oper.wp P o a (w.alloc (.cells #[.int .u8 E] e)) K Q else E' := by
  subst hE
  exact step_of hgd (op_appB [c] ho ht hi hx hs hown hB hbase hbd h)
theorem step_appB3 {K : Act → World → Prop} {E' : Prop} {wE w : World} {base : Nat} {e t : TypeId} {v : Value} {l : List UInt8} {s x : Operand} {E F G : Int} (c d f : UInt8) (hE : E = (c.toNat : Int)) (hF : F = (d.toNat : Int)) (hG : G = (f.toNat : Int))
    (hgd : o.guard = none) (ho : o.op = .call { callee := .builtin .append, args := #[s, x], argTypes := #[t, t] })
    (ht : P.underlying t = some (.slice e)) (hi : infoIs P e (.int .u8 0) 1 1)
    (hx : a.eval x = .slice (some ⟨w.heap.size, 0, none⟩) 3 3) (hs : a.eval s = v) (hown : Byt w base e v l) (hB : Below base wE w) (hbase : base ≤ wE.heap.size)
    (hbd : l.length + 3 ≤ 140737488355328)
    (h : ∀ v' w', Byt w' base e v' (l ++ [c, d, f]) → Below base wE w' → K (a.put o.dst v') w') :
    if Region.wanted o (yielded ops a.tmps) = true then Oper.wp P o a (w.alloc (.cells #[.int .u8 E, .int .u8 F, .int .u8 G] e)) K Q else E' := by
  subst hE hF hG
  exact step_of hgd (op_appB [c, d, f] ho ht hi hx hs hown hB hbase hbd h)
theorem wpList_appB1 {wE w : World} {base : Nat} {e t : TypeId} {v : Value} {l : List UInt8} {s x : Operand} {E : Int} (c : UInt8) (hE : E = (c.toNat : Int))
    (hgd : o.guard = none) (ho : o.op = .call { callee := .builtin .append, args := #[s, x], argTypes := #[t, t] })
    (ht : P.underlying t = some (.slice e)) (hi : infoIs P e (.int .u8 0) 1 1)
    (hx : a.eval x = .slice (some ⟨w.heap.size, 0, none⟩) 1 1) (hs : a.eval s = v) (hown : Byt w base e v l) (hB : Below base wE w) (hbase : base ≤ wE.heap.size)
    (hbd : l.length + 1 ≤ 140737488355328)
    (h : ∀ v' w', Byt w' base e v' (l ++ [c]) → Below base wE w' → wpList P ops Q rest (a.put o.dst v') w') :
    wpList P ops Q (o :: rest) a (w.alloc (.cells #[.int .u8 E] e)) := by
  subst hE
  exact wpList_appB [c] hgd ho ht hi hx hs hown hB hbase hbd h
theorem wpList_appB2 {wE w : World} {base : Nat} {e t : TypeId} {v : Value} {l : List UInt8} {s x : Operand} {E F : Int} (c d : UInt8) (hE : E = (c.toNat : Int)) (hF : F = (d.toNat : Int))
    (hgd : o.guard = none) (ho : o.op = .call { callee := .builtin .append, args := #[s, x], argTypes := #[t, t] })
    (ht : P.underlying t = some (.slice e)) (hi : infoIs P e (.int .u8 0) 1 1)
    (hx : a.eval x = .slice (some ⟨w.heap.size, 0, none⟩) 2 2) (hs : a.eval s = v) (hown : Byt w base e v l) (hB : Below base wE w) (hbase : base ≤ wE.heap.size)
    (hbd : l.length + 2 ≤ 140737488355328)
    (h : ∀ v' w', Byt w' base e v' (l ++ [c, d]) → Below base wE w' → wpList P ops Q rest (a.put o.dst v') w') :
    wpList P ops Q (o :: rest) a (w.alloc (.cells #[.int .u8 E, .int .u8 F] e)) := by
  subst hE hF
  exact wpList_appB [c, d] hgd ho ht hi hx hs hown hB hbase hbd h
theorem wpList_appB3 {wE w : World} {base : Nat} {e t : TypeId} {v : Value} {l : List UInt8} {s x : Operand} {E F G : Int} (c d f : UInt8) (hE : E = (c.toNat : Int)) (hF : F = (d.toNat : Int)) (hG : G = (f.toNat : Int))
    (hgd : o.guard = none) (ho : o.op = .call { callee := .builtin .append, args := #[s, x], argTypes := #[t, t] })
    (ht : P.underlying t = some (.slice e)) (hi : infoIs P e (.int .u8 0) 1 1)
    (hx : a.eval x = .slice (some ⟨w.heap.size, 0, none⟩) 3 3) (hs : a.eval s = v) (hown : Byt w base e v l) (hB : Below base wE w) (hbase : base ≤ wE.heap.size)
    (hbd : l.length + 3 ≤ 140737488355328)
    (h : ∀ v' w', Byt w' base e v' (l ++ [c, d, f]) → Below base wE w' → wpList P ops Q rest (a.put o.dst v') w') :
    wpList P ops Q (o :: rest) a (w.alloc (.cells #[.int .u8 E, .int .u8 F, .int .u8 G] e)) := by
  subst hE hF hG
  exact wpList_appB [c, d, f] hgd ho ht hi hx hs hown hB hbase hbd h

/-- string(b) of a byte buffer -/
theorem wpList_str {w : World} {base : Nat} {e src dst : TypeId} {v : Value} {l : List UInt8} {x : Operand}
    (hgd : o.guard = none) (ho : o.op = .convert src dst x)
    (hs : P.underlying src = some (.slice e)) (he : P.underlying e = some (.int .u8)) (hd : P.underlying dst = some .string)
    (hx : a.eval x = v) (hown : Byt w base e v l)
    (h : wpList P ops Q rest (a.put o.dst (.string (bs l))) w) :
    wpList P ops Q (o :: rest) a w := by
  refine wpList_plain hgd fun K hK => ?_
  have hrun : (convert src dst v).run P w = .ok (.string (bs l)) w := by
    rcases hown.2 with ⟨rfl, hn⟩ | ⟨g, cap, cur, rfl, _, hg, hnc, hcm, hcs, htake⟩
    · have hl := List.eq_nil_of_length_eq_zero hn
      subst hl
      exact run_convert_bytes_nil w src e hs he 0 0 dst hd
    · refine run_convert_bytes_back w src dst e ⟨g, 0, none⟩ cap l hs he hd ?_
      intro j hj
      have := hown.cells (g := g) rfl j (bv l[j]) (by simp [hj])
      exact this
  unfold Oper.wp
  simp [execOp, ho, hx, hrun, Result.andThen]
  exact hK _ _ h

/-- string(b) of a piece of a block of bytes -/
theorem wpList_strAt {w : World} {e src dst : TypeId} {g off n cap : Nat} {l : List UInt8} {x : Operand}
    (hgd : o.guard = none) (ho : o.op = .convert src dst x)
    (hs : P.underlying src = some (.slice e)) (he : P.underlying e = some (.int .u8)) (hd : P.underlying dst = some .string)
    (hx : a.eval x = .slice (some ⟨g, off, none⟩) n cap) (hn : l.length = n)
    (hc : ∀ j (hj : j < l.length), w.cell? ⟨g, off + j, none⟩ = some (bv l[j]))
    (h : wpList P ops Q rest (a.put o.dst (.string (bs l))) w) :
    wpList P ops Q (o :: rest) a w := by
  subst hn
  refine wpList_plain hgd fun K hK => ?_
  have hrun : (convert src dst (.slice (some ⟨g, off, none⟩) l.length cap)).run P w = .ok (.string (bs l)) w := by
    refine run_convert_bytes_back w src dst e ⟨g, off, none⟩ cap l hs he hd ?_
    intro j hj
    have hadd : (⟨g, off, none⟩ : Addr).add j = ⟨g, off + j, none⟩ := by unfold Addr.add; split <;> simp_all
    rw [hadd]; exact hc j hj
  unfold Oper.wp
  simp [execOp, ho, hx, hrun, Result.andThen]
  exact hK _ _ h

/-- a block of bytes that may be written: its first cells are l -/
def bytesAt (w : World) (e : TypeId) (g : Nat) (l : List UInt8) : Prop :=
  ∃ cur lo hi, w.heap[g]? = some (.cells cur e (lo, hi)) ∧ l.length ≤ cur.size ∧ l.length ≤ lo ∧ cur.toList.take l.length = l.map bv

/-- []byte(s) -/
theorem wpList_bytes {w : World} {e src dst : TypeId} {s : ByteArray} {x : Operand}
    (hgd : o.guard = none) (ho : o.op = .convert src dst x)
    (hs : P.underlying src = some .string) (hd : P.underlying dst = some (.slice e)) (he : P.underlying e = some (.int .u8))
    (hx : a.eval x = .string s)
    (h : ∀ cap w', bytesAt w' e w.heap.size (us s) → Below w.heap.size w w' → w.heap.size < w'.heap.size → s.size ≤ cap → wpList P ops Q rest (a.put o.dst (.slice (some ⟨w.heap.size, 0, none⟩) s.size cap)) w') :
    wpList P ops Q (o :: rest) a w := by
  refine wpList_plain hgd fun K hK => ?_
  have hrun := Lib.run_convert_string_bytes (P := P) w src dst e s hs hd he
  unfold Oper.wp
  simp [execOp, ho, hx, hrun, Result.andThen]
  have hbc : s.size ≤ (Lib.bytesCells w e s).size := by
    unfold Lib.bytesCells; rw [Array.size_append, Array.size_map]; exact Nat.le_add_right s.data.size _
  have hcap : s.size ≤ grownCap w s.size 0 e := grownCap_ge w s.size 0 e
  refine hK _ _ (h _ _ ⟨_, _, _, Lib.bytesWorld_at_new w e s, ?_, ?_, ?_⟩ ⟨rfl, rfl, rfl, ?_, fun k hk => Lib.bytesWorld_at_old w e s k hk⟩ ?_ hcap)
  · rw [length_us]; exact hbc
  · rw [length_us]; exact hbc
  · simp only [Lib.bytesCells, Array.toList_append, Array.toList_map]
    rw [List.take_append_of_le_length (by simp [us])]
    rw [List.take_of_length_le (by simp [us])]
    rfl
  · rw [Lib.bytesWorld_size]; omega
  · rw [Lib.bytesWorld_size]; omega

end

theorem bytesAt.cell {w : World} {e : TypeId} {g : Nat} {l : List UInt8} (h : bytesAt w e g l) (j : Nat) (hj : j < l.length) : w.cell? ⟨g, j, none⟩ = some (bv l[j]) := by
  obtain ⟨cur, lo, hi, hg, h1, h2, h3⟩ := h
  have : cur[j]? = some (bv l[j]) := by
    have e1 : (cur.toList.take l.length)[j]? = some (bv l[j]) := by rw [h3]; simp [hj]
    rw [List.getElem?_take] at e1
    simpa [hj] using e1
  simp [World.cell?, hg, this]
theorem bytesAt.free {w : World} {e : TypeId} {g : Nat} {l : List UInt8} (h : bytesAt w e g l) (j : Nat) (hj : j < l.length) : w.frozen? ⟨g, j, none⟩ = false := by
  obtain ⟨cur, lo, hi, hg, h1, h2, h3⟩ := h
  simp [World.frozen?, hg]; omega
theorem bytesAt.set {w : World} {e : TypeId} {g : Nat} {l : List UInt8} (h : bytesAt w e g l) (j : Nat) (_hj : j < l.length) (c : UInt8) : bytesAt (w.setCell ⟨g, j, none⟩ (bv c)) e g (l.set j c) := by
  obtain ⟨cur, lo, hi, hg, h1, h2, h3⟩ := h
  refine ⟨cur.setIfInBounds j (bv c), lo, hi, ?_, by simpa using h1, by simpa using h2, ?_⟩
  · simp only [World.setCell, Array.getElem?_modify, hg]; simp
  · rw [Array.toList_setIfInBounds, List.length_set, List.map_set, ← h3, List.take_set]

end Go.Proofs.YteiafgoigfehgaaDoor
