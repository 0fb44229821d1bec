/- Contracts of Go functions, and plain laws. No condition but those told. -/
import Derived.Test.YtipdiddjhimdcaaGreatDoorWhw
set_option linter.unusedSimpArgs false
set_option linter.unusedVariables false
set_option maxRecDepth 100000
namespace Go.Proofs.YtipdiddjhimdcaaGreatDoor
open Go.RowKit Go.Sort
def zrow : Array Value := #[(.string ⟨#[]⟩), (.string ⟨#[]⟩), (.string ⟨#[]⟩), (.string ⟨#[]⟩), (.int .i64 0), (.slice none 0 0), (.slice none 0 0), (.string ⟨#[]⟩), (.string ⟨#[]⟩), (.string ⟨#[]⟩), (.string ⟨#[]⟩), (.string ⟨#[]⟩), (.string ⟨#[]⟩), (.int .i64 0), (.slice none 0 0), (.slice none 0 0), (.slice none 0 0), (.string ⟨#[]⟩), (.string ⟨#[]⟩), (.string ⟨#[]⟩), (.string ⟨#[]⟩), (.int .i64 0), (.slice none 0 0), (.slice none 0 0), (.slice none 0 0), (.string ⟨#[]⟩), (.string ⟨#[]⟩), (.string ⟨#[]⟩), (.int .i64 0), (.int .i64 0), (.string ⟨#[]⟩), (.slice none 0 0), (.slice none 0 0), (.slice none 0 0), (.slice none 0 0), (.string ⟨#[]⟩), (.string ⟨#[]⟩), (.string ⟨#[]⟩)]
def Off (g : Nat) (v : Value) : Prop := ∀ b off p n c, v = .slice (some ⟨b, off, p⟩) n c → n ≠ 0 → b ≠ g
theorem Off.fresh {v : Value} {g B : Nat} (h : Fresh B v) (hg : g < B) : Off g v := by
 intro b off p n c e _
 have := h _ _ _ e
 dsimp only at this
 omega
theorem Off.prms {w w' : World} {v : Value} {L : List Prm} {g : Nat} (h : RPrms w v L) (ho : Off g v) (hh : ∀ k, k ≠ g → w'.heap[k]? = w.heap[k]?) (hs : w.heap.size ≤ w'.heap.size) : RPrms w' v L := by
 rcases h with h | ⟨b, off, cap, h1, h2, h2', h3, h4⟩
 ·exact .inl h
 ·by_cases hL : L.length = 0
  ·exact .inl ⟨⟨_, _, by rw [h1, hL]⟩, List.length_eq_zero_iff.1 hL⟩
  have hb : b ≠ g := ho _ _ _ _ _ h1 hL
  have hc : ∀ o, w'.cell? ⟨b, o, none⟩ = w.cell? ⟨b, o, none⟩ := fun o => World.cell?_of_block (w := w) (a := ⟨b, o, none⟩) (hh b hb)
  refine .inr ⟨b, off, cap, h1, h2, h2', Nat.lt_of_lt_of_le h3 hs, fun j hj => ?_⟩
  rw [hc, hc, hc]; exact h4 j hj
def isBool : Value → Bool
 | .bool _ => true
 | _ => false
theorem Off.noBool {w : World} {v : Value} {L : List Prm} {g : Nat} {t : TypeId} {cs : Array Value} (h : RPrms w v L) (hb : Blk w g t cs) (hn : (cs.toList.all fun x => !isBool x) = true) : Off g v := by
 intro b off p n c e hne hbg
 rcases h with ⟨⟨ao, cap, rfl⟩, _⟩ | ⟨b', off', cap, rfl, _, _, h3, h4⟩
 ·injection e with _ e _; exact hne e.symm
 ·injection e with e en _
  injection e with e
  injection e with e1 e2 _
  have hL : 0 < L.length := by omega
  have hc := (h4 0 hL).2.2
  subst e1 hbg
  rw [show w.cell? ⟨b', off' + 0 * 3 + 2, none⟩ = cs[off' + 0 * 3 + 2]? from boxedCell hb _] at hc
  rw [List.all_eq_true] at hn
  have := hn _ (List.mem_of_getElem? (by rw [Array.getElem?_toList]; exact hc))
  simp [isBool] at this
theorem Blk.drw {w : World} {g : Nat} {t : TypeId} {cs : Array Value} (h : Blk w g t cs) : Blk w.drew g t cs := h
theorem zUp {B : Nat} {w w1 w2 : World} (h : Below B w w1) (hs : B ≤ w1.heap.size) (hC : Below w1.heap.size w1 w2) : Below B w w2 := h.trans (hC.mono hs)
theorem zDrew {B : Nat} {w w' : World} (h : Below B w w') : Below B w w'.drew := ⟨h.os, h.tape, h.output, h.size, h.block⟩
section
variable {P : Program} {ops : Array Oper} {rest : List Oper} {o : Oper} {a : Act} {Q : Exit → Act → World → Prop}
theorem wpList_to (I : World → Prop) {w : World} (h : I w) (k : ∀ wr, I wr → wpList P ops Q rest a wr) : wpList P ops Q rest a w := k w h
theorem op_storeC {K : Act → World → Prop} {w : World} {g off : Nat} {t T : TypeId} {cs cs' : Array Value} {p x : Operand} {v : Value}
  (ho : o.op = .store T p x) (hp : a.eval p = .pointer (some ⟨g, off, none⟩)) (hx : a.eval x = v) (hC : (P.info? T).map (·.size) = some 1)
  (hb : Blk w g t cs) (hsz : off < cs.size) (h1 : v.oneCell' = true) (hcl : v.cells = #[v]) (hcs : cs.setIfInBounds off v = cs')
  (h : ∀ w', Blk w' g t cs' → (∀ k, k ≠ g → w'.heap[k]? = w.heap[k]?) → w'.heap.size = w.heap.size → (∀ B, B ≤ g → Below B w w') → K (a.put o.dst undef) w') :
  o.wp P a w K Q := by
 obtain ⟨i, hi, his⟩ := Option.map_eq_some_iff.1 hC
 have hrun := run_storeCells_cells (P := P) g off [v] 0 w (fun j hj => by
  have hj0 : j = 0 := by simpa using hj
  subst hj0
  have : w.cell? ⟨g, off + 0 + 0, none⟩ = cs[off + 0 + 0]? := boxedCell hb (off + 0 + 0)
  rw [this]; simp [hsz]) (fun j _ => boxedFree hb _) (fun x hx => by rw [List.mem_singleton.1 hx]; exact h1)
 have hex : (execOp a.eval o).run P w = .ok .skip (w.setCells g off [v]) := by
  simp only [Nat.add_zero] at hrun
  simp [execOp, ho, hp, hx, Instr.storeAt, Instr.sureAddr, storeVar, sizeOf, typeInfo, hi, his, hcl, hrun, Result.andThen]
 unfold Oper.wp
 rw [hex]
 exact h _ (hcs ▸ setCells_blk [v] off w cs hb) (fun k hk => setCells_far g _ _ _ k hk) (setCells_size g _ _ _) (fun B hB => setCells_below hB _ _ _ _ (Below.refl _ _))
theorem wpList_storeC {w : World} {g off : Nat} {t T : TypeId} {cs cs' : Array Value} {p x : Operand} {v : Value}
  (hgd : o.guard = none) (ho : o.op = .store T p x) (hp : a.eval p = .pointer (some ⟨g, off, none⟩)) (hx : a.eval x = v) (hC : (P.info? T).map (·.size) = some 1)
  (hb : Blk w g t cs) (hsz : off < cs.size) (h1 : v.oneCell' = true) (hcl : v.cells = #[v]) (hcs : cs.setIfInBounds off v = cs')
  (h : ∀ w', Blk w' g t cs' → (∀ k, k ≠ g → w'.heap[k]? = w.heap[k]?) → w'.heap.size = w.heap.size → (∀ B, B ≤ g → Below B w w') → wpList P ops Q rest (a.put o.dst undef) w') :
  wpList P ops Q (o :: rest) a w :=
 wpList_plain hgd fun _ hK => op_storeC ho hp hx hC hb hsz h1 hcl hcs (fun w' b f s l => hK _ _ (h w' b f s l))
theorem op_storeB {K : Act → World → Prop} {w : World} {g off : Nat} {t T : TypeId} {cs vs cs' : Array Value} {p x : Operand}
  (ho : o.op = .store T p x) (hp : a.eval p = .pointer (some ⟨g, off, none⟩)) (hx : a.eval x = .agg vs) (hC : (P.info? T).map (·.size) = some vs.size)
  (hb : Blk w g t cs) (hsz : off + vs.size ≤ cs.size) (h1 : (vs.toList.all fun v => v.oneCell') = true) (hcs : setAll cs off vs.toList = cs')
  (h : ∀ w', Blk w' g t cs' → (∀ k, k ≠ g → w'.heap[k]? = w.heap[k]?) → w'.heap.size = w.heap.size → (∀ B, B ≤ g → Below B w w') → K (a.put o.dst undef) w') :
  o.wp P a w K Q := by
 obtain ⟨i, hi, his⟩ := Option.map_eq_some_iff.1 hC
 have hcell : ∀ j, j < vs.toList.length → (w.cell? ⟨g, off + 0 + j, none⟩).isSome = true := by
  intro j hj
  have hj' : off + j < cs.size := by simp at hj; omega
  have : w.cell? ⟨g, off + j, none⟩ = cs[off + j]? := boxedCell hb (off + j)
  rw [Nat.add_zero, this]; simp [hj']
 have hfree : ∀ j, j < vs.toList.length → w.frozen? ⟨g, off + 0 + j, none⟩ = false := fun j _ => boxedFree hb _
 have hrun := run_storeCells_cells (P := P) g off vs.toList 0 w hcell hfree (List.all_eq_true.1 h1)
 have hex : (execOp a.eval o).run P w = .ok .skip (w.setCells g off vs.toList) := by
  simp only [Nat.add_zero] at hrun
  simp [execOp, ho, hp, hx, Instr.storeAt, Instr.sureAddr, storeVar, sizeOf, typeInfo, hi, his, Value.cells, hrun, Result.andThen]
 unfold Oper.wp
 rw [hex]
 exact h _ (hcs ▸ setCells_blk _ _ _ _ hb) (fun k hk => setCells_far g _ _ _ k hk) (setCells_size g _ _ _) (fun B hB => setCells_below hB _ _ _ _ (Below.refl _ _))
theorem run_loadBo {w : World} {g off : Nat} {t T : TypeId} {fs : Array Field} {cs vs : Array Value} {p : Operand}
  (ho : o.op = .load T p) (hp : a.eval p = .pointer (some ⟨g, off, none⟩)) (hA : P.underlying T = some (.struct fs)) (hC : (P.info? T).map (·.size) = some vs.size)
  (hb : Blk w g t cs) (hvs : vs.toList = (cs.toList.drop off).take vs.size) : (execOp a.eval o).run P w = .ok (.value (.agg vs)) w := by
 obtain ⟨i, hi, his⟩ := Option.map_eq_some_iff.1 hC
 have hcell : ∀ j v, vs.toList[j]? = some v → w.cell? ((⟨g, off, none⟩ : Addr).add j) = some v := by
  intro j v hj
  have hlt : j < vs.size := by have := (List.getElem?_eq_some_iff.1 hj).1; simpa using this
  have e : w.cell? ⟨g, off + j, none⟩ = cs[off + j]? := boxedCell hb (off + j)
  rw [add_cell, e, ← hj, hvs, List.getElem?_take_of_lt hlt, List.getElem?_drop]
  simp
 have hrun := run_loadCells_list (P := P) w ⟨g, off, none⟩ vs.toList hcell
 simp [execOp, ho, hp, Instr.loadAt, Instr.sureAddr, loadVar, isAgg, run_underlying hA, sizeOf, typeInfo, hi, his, hrun, Result.andThen]
 first | done | (simp at hrun; simp [hrun])
end
theorem KeptB.store1 {g1 g2 : Nat} {w w' : World} (hf : ∀ k, k ≠ g1 → w'.heap[k]? = w.heap[k]?) (hs : w'.heap.size = w.heap.size) : KeptB g1 g2 w w' := ⟨Nat.le_of_eq hs.symm, fun k _ a _ => hf k a⟩
structure MSt (w : World) (msg rs : Array Value) (wr : World) : Prop where
 bm : Blk wr w.heap.size 45 msg
 b2 : Blk wr (w.heap.size + 1) 32 zrow
 br : Blk wr (w.heap.size + 1 + 1) 32 rs
 hB : Below w.heap.size w wr
theorem MSt.call {w wr w1 : World} {msg rs : Array Value} (h : MSt w msg rs wr) (hC : Below wr.heap.size wr w1) : MSt w msg rs w1 := ⟨h.bm.call hC, h.b2.call hC, h.br.call hC, h.hB.trans (hC.mono h.hB.size)⟩
theorem MSt.alloc {w wr : World} {msg rs : Array Value} (h : MSt w msg rs wr) (o : Obj) : MSt w msg rs (wr.alloc o) := ⟨h.bm.alloc o, h.b2.alloc o, h.br.alloc o, h.hB.alloc h.hB.size o⟩
theorem MSt.drew {w wr : World} {msg rs : Array Value} (h : MSt w msg rs wr) : MSt w msg rs wr.drew := ⟨h.bm, h.b2, h.br, zDrew h.hB⟩
theorem MSt.lt {w wr : World} {msg rs : Array Value} (h : MSt w msg rs wr) : w.heap.size + 1 + 1 < wr.heap.size := h.br.lt
theorem MSt.store {w wr w' : World} {msg rs rs' : Array Value} (h : MSt w msg rs wr) (hb : Blk w' (w.heap.size + 1 + 1) 32 rs') (hf : ∀ k, k ≠ w.heap.size + 1 + 1 → w'.heap[k]? = wr.heap[k]?) (hl : ∀ B, B ≤ w.heap.size + 1 + 1 → Below B wr w') : MSt w msg rs' w' :=
 ⟨(hf _ (by omega)).trans h.bm, (hf _ (by omega)).trans h.b2, hb, h.hB.trans (hl _ (by omega))⟩
theorem MSt.start (w : World) (msg rs : Array Value) : MSt w msg rs (((w.alloc (.cells msg 45)).alloc (.cells zrow 32)).alloc (.cells rs 32)) :=
 ⟨((Blk.new w _ _).alloc _).alloc _, by
  have := (Blk.new (w.alloc (.cells msg 45)) 32 zrow).alloc (.cells rs 32)
  rwa [World.size_alloc] at this, by
  have := Blk.new ((w.alloc (.cells msg 45)).alloc (.cells zrow 32)) 32 rs
  rwa [World.size_alloc, World.size_alloc] at this, (((Below.refl _ _).alloc (ρ _) _).alloc (by rw [World.size_alloc]; omega) _).alloc (by rw [World.size_alloc, World.size_alloc]; omega) _⟩
structure Ad3 (B : Nat) (w : World) (u1 u2 u3 : Value) (a : Adr) : Prop where
 r1 : RPrms w u1 a.uri.ps
 r2 : RPrms w u2 a.uri.hs
 r3 : RPrms w u3 a.ps
 f1 : Fresh B u1
 f2 : Fresh B u2
 f3 : Fresh B u3
theorem Ad3.kept {g1 g2 B : Nat} {w w' : World} {u1 u2 u3 : Value} {a : Adr} (h : Ad3 B w u1 u2 u3 a) (h1 : g1 < B) (h2 : g2 < B) (hk : KeptB g1 g2 w w') : Ad3 B w' u1 u2 u3 a :=
 ⟨h.r1.keptB h.f1 h1 h2 hk, h.r2.keptB h.f2 h1 h2 hk, h.r3.keptB h.f3 h1 h2 hk, h.f1, h.f2, h.f3⟩
theorem Ad3.call {B : Nat} {w w' : World} {u1 u2 u3 : Value} {a : Adr} (h : Ad3 B w u1 u2 u3 a) (hC : Below w.heap.size w w') : Ad3 B w' u1 u2 u3 a :=
 ⟨h.r1.below hC (ρ _), h.r2.below hC (ρ _), h.r3.below hC (ρ _), h.f1, h.f2, h.f3⟩
theorem Ad3.store {g B : Nat} {w w' : World} {u1 u2 u3 : Value} {a : Adr} (h : Ad3 B w u1 u2 u3 a) (hg : g < B) (hf : ∀ k, k ≠ g → w'.heap[k]? = w.heap[k]?) (hs : w'.heap.size = w.heap.size) : Ad3 B w' u1 u2 u3 a :=
 h.kept hg hg (KeptB.store1 hf hs)
theorem RPrms.form' {w : World} {v : Value} {L : List Prm} (h : RPrms w v L) : ∃ ao c, v = .slice ao L.length c := by
 obtain ⟨ao, c, e, _⟩ := h.form
 exact ⟨ao, c, e⟩
structure HopAt (w : World) (b off : Nat) (h : Hop) (u : Value) : Prop where
 c0 : w.cell? ⟨b, off, none⟩ = some (.string (bs h.host))
 c1 : w.cell? ⟨b, off + 1, none⟩ = some (.int .i64 h.port)
 c2 : w.cell? ⟨b, off + 2, none⟩ = some u
 lt : b < w.heap.size
 ps : RPrms w u h.ps
theorem HopAt.call {w w' : World} {b off : Nat} {h : Hop} {u : Value} (H : HopAt w b off h u) (hC : Below w.heap.size w w') : HopAt w' b off h u :=
 ⟨(hC.cell (p := ⟨b, off, none⟩) H.lt).trans H.c0, (hC.cell (p := ⟨b, off + 1, none⟩) H.lt).trans H.c1, (hC.cell (p := ⟨b, off + 2, none⟩) H.lt).trans H.c2, Nat.lt_of_lt_of_le H.lt hC.size, H.ps.below hC (ρ _)⟩
theorem HopAt.store {w w' : World} {b off g : Nat} {t : TypeId} {cs : Array Value} {h : Hop} {u : Value} (H : HopAt w b off h u) (hb : Blk w g t cs) (hn : (cs.toList.all fun x => !isBool x) = true) (hne : b ≠ g)
  (hf : ∀ k, k ≠ g → w'.heap[k]? = w.heap[k]?) (hs : w'.heap.size = w.heap.size) : HopAt w' b off h u := by
 have e : ∀ o, w'.cell? ⟨b, o, none⟩ = w.cell? ⟨b, o, none⟩ := fun o => World.cell?_of_block (w := w) (a := ⟨b, o, none⟩) (hf b hne)
 exact ⟨(e _).trans H.c0, (e _).trans H.c1, (e _).trans H.c2, hs ▸ H.lt, Off.prms H.ps (Off.noBool H.ps hb hn) hf (Nat.le_of_eq hs.symm)⟩
end Go.Proofs.YtipdiddjhimdcaaGreatDoor
