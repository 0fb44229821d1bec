/-
  How a mixer lies in memory, and what each step leaves of it.
-/
import Derived.Test.YtbljmjbialinkaaDoorMix
namespace Go.Proofs.YtbljmjbialinkaaDoor
set_option linter.unusedSimpArgs false
set_option linter.unusedVariables false
open Go.RowKit Go.Sort Go.Maps
open Go.ChangeMaps (setBlock heap_setBlock_same modify_eq_set)
open Go.WideElems (entry_then_store set_self)

theorem lawTk : WideMaps.KeyLaw Tryd.prog 39 := deep_law_laid (show laidOutB Tryd.prog = true by kernel_rfl) (m := 3) (by omega) (of_decide_eq_true (by kernel_rfl)) (by kernel_rfl) (by kernel_rfl)
theorem owns_entry {P : Program} {w : World} {t k e : TypeId} {b n : Nat} {D : DataW Unit} (K : WideMaps.KeyLaw P k) (ht : P.underlying t = some (.map k e)) (he : P.underlying e = some (.int .i64)) (hz : ∀ u : World, (zeroValue e).run P u = .ok (.int .i64 0) u)
    (h : w.ownsMap P k (plainElem P e) b n D) (hn : n < maxLen) {key val : Value} {kl : Lit} {d : DataW Unit} (hkey : keyOf P k key = some kl) (hv : plainElem P e val = some (d, [])) {c : Int} (hc : D.atKey kl (.lit (.int .i64 0)) = .lit (.int .i64 c)) :
    ∃ (v0 : Value) (st : Int) (w1 w2 : World), (Instr.mapEntry t (.map (some b)) key).run P w = .ok (.tuple #[v0, .int .i64 st]) w1 ∧ (Instr.entryStore t (.map (some b)) (.int .i64 st) val).run P w1 = .ok () w2 ∧ w2.ownsMap P k (plainElem P e) b (n + 1) (D.put kl d) ∧ w.grownBy w2 (some b) ∧
      (Instr.lookup t (.map (some b)) key false).run P w1 = .ok (.int .i64 c) w1 := by
  have h' := h
  have hmap := h.isMap
  obtain ⟨es, clock, hb, F, hs, hD⟩ := h
  obtain ⟨w', hrun, h1, h2⟩ := h'.update (Keyed.of_law K) ht hn hkey hv
  obtain ⟨v0, st, es1, clock1, r1, _, r2⟩ := entry_then_store K ht hz hb F hkey
  obtain ⟨es', clock', r3, r4⟩ := r2 (setBlock w b (.map es1 clock1)) val (heap_setBlock_same hb _)
  have ew : setBlock (setBlock w b (.map es1 clock1)) b (.map es' clock') = w' := by
    have := hrun.symm.trans r4
    injection this with _ this
    rw [this]
    unfold setBlock
    simp
  rw [ew] at r3
  refine ⟨v0, st, _, _, r1, r3, h1, h2, ?_⟩
  have key2 : ∃ (v : Value) (d0 : DataW Unit), plainElem P e v = some (d0, []) ∧ d0 = .lit (.int .i64 c) ∧ (Instr.mapUpdate t (.map (some b)) key v).run P w = .ok () (setBlock w b (.map es1 clock1)) := by
    rcases fit_look false (Keyed.of_law K) ht (hz w) hb F hkey with ⟨_, g2, g3⟩ | ⟨x0, y, g1, g2, _, g4, g5, _⟩
    · refine ⟨.int .i64 0, .lit (.int .i64 0), plainElem_int he (a := 0) (by decide), ?_, ?_⟩
      · rw [hD, g3] at hc; exact hc
      · rcases K.find w hkey es.toList F.keys with ⟨q1, q2⟩ | ⟨j, e0, q1, q2, q3⟩
        · have hm : (Instr.mapEntry t (.map (some b)) key).run P w = .ok (.tuple #[.int .i64 0, goInt clock]) (setBlock w b (.map (es.push ⟨key, .int .i64 0, clock⟩) (clock + 1))) := by
            simp [Instr.mapEntry, run_underlying ht, MapKept.run_getObj_map hb, K.check w false hkey, q1, hz, MapKept.run_setObj_map _ hb, Result.andThen, setBlock]
          have hu : (Instr.mapUpdate t (.map (some b)) key (.int .i64 0)).run P w = .ok () (setBlock w b (.map (es.push ⟨key, .int .i64 0, clock⟩) (clock + 1))) := by
            simp [Instr.mapUpdate, run_underlying ht, MapKept.run_getObj_map hb, K.check w false hkey, q1, MapKept.run_setObj_map _ hb, Result.andThen, setBlock]
          have := r1.symm.trans hm
          injection this with _ this
          rw [this]; exact hu
        · exact absurd q3 (g2 e0 (List.mem_of_getElem? q2))
    · rcases K.find w hkey es.toList F.keys with ⟨q1, q2⟩ | ⟨j, e0, q1, q2, q3⟩
      · exact absurd g2 (q2 x0 g1)
      · have hj : es[j]? = some e0 := by simpa using q2
        have hsame : es.modify j (fun e => { e with key := key }) = es := by
          apply Array.ext'
          rw [Array.toList_modify, modify_eq_set _ _ _ _ q2]
          have : ({ e0 with key := key } : MapEntry) = e0 := by rw [← q3]
          rw [this]
          exact set_self _ _ _ q2
        have hsame2 : es.modify j (fun e => { e with key := key, val := e0.val }) = es := by
          apply Array.ext'
          rw [Array.toList_modify, modify_eq_set _ _ _ _ q2]
          have : ({ e0 with key := key, val := e0.val } : MapEntry) = e0 := by rw [← q3]
          rw [this]
          exact set_self _ _ _ q2
        have hm : (Instr.mapEntry t (.map (some b)) key).run P w = .ok (.tuple #[e0.val, goInt e0.born]) (setBlock w b (.map es clock)) := by
          simp [Instr.mapEntry, run_underlying ht, MapKept.run_getObj_map hb, K.check w false hkey, q1, hj, q3, K.stays w hkey, hsame, MapKept.run_setObj_map _ hb, Result.andThen, setBlock]
        have hu : (Instr.mapUpdate t (.map (some b)) key e0.val).run P w = .ok () (setBlock w b (.map es clock)) := by
          simp [Instr.mapUpdate, run_underlying ht, MapKept.run_getObj_map hb, K.check w false hkey, q1, hj, q3, K.stays w hkey, hsame2, MapKept.run_setObj_map _ hb, Result.andThen, setBlock]
        have hw := r1.symm.trans hm
        injection hw with _ hw
        have hl0 : (Instr.lookup t (.map (some b)) key false).run P w = .ok e0.val w := by
          simp [Instr.lookup, run_underlying ht, MapKept.run_getObj_map hb, K.check w _ hkey, q1, Result.andThen]
        obtain ⟨c', k1, k2, k3⟩ := h'.lookup_int (Keyed.of_law K) ht he (hz w) hkey
        have hcc : c' = c := by
          have := k2.symm.trans hc
          injection this with this
          injection this
        have hev : e0.val = .int .i64 c := by
          have := hl0.symm.trans k1
          injection this with this
          rw [this, hcc]
        refine ⟨e0.val, .lit (.int .i64 c), ?_, rfl, by rw [hw]; exact hu⟩
        rw [hev]
        exact plainElem_int he (hcc ▸ k3)
  obtain ⟨v, d0, hv0, hd0, hu⟩ := key2
  obtain ⟨w9, hrun9, h9, _⟩ := h'.update (Keyed.of_law K) ht hn hkey hv0
  have e9 : w9 = setBlock w b (.map es1 clock1) := by
    have := hrun9.symm.trans hu
    injection this
  rw [e9] at h9
  obtain ⟨c', k1, k2, k3⟩ := h9.lookup_int (Keyed.of_law K) ht he (hz _) hkey
  have : c' = c := by
    have hp := atKey_put_same hmap ((Keyed.of_law K).key hkey) d0 (.lit (.int .i64 0))
    have := k2.symm.trans (hp.trans hd0)
    injection this with this
    injection this
  rw [← this]; exact k1

theorem cutkM {G : Prop} {A : World → Prop} (Q : World → Prop) (h : (∀ w, A w → Q w) → G) (k : ∀ w, A w → Q w) : G := h k
structure MxA (w : World) (base g : Nat) (who : List UInt8) (vt vn : Value) (kn ks kq : Nat) (out : List Tup) (ids : List (List UInt8)) (seen : List Tup) (notes known : List (List UInt8)) : Prop where
  blk : Blk w g 45 #[sv who, vt, vn, .map (some kn), .map (some ks), .map (some kq)]
  tups : Tups w base vt out
  nts : Strs w base 9 vn notes
  dn : ∃ D, w.ownsMap Tryd.prog 9 (plainElem Tryd.prog 3) kn ids.length D ∧ CntS D ids
  ds : ∃ D, w.ownsMap Tryd.prog 39 (plainElem Tryd.prog 3) ks seen.length D ∧ CntT D seen
  dq : ∃ D, w.ownsMap Tryd.prog 9 (plainElem Tryd.prog 3) kq known.length D ∧ CntS D known
  bb : base ≤ g ∧ base ≤ kn ∧ base ≤ ks ∧ base ≤ kq
  ap : g ≠ kn ∧ g ≠ ks ∧ g ≠ kq ∧ kn ≠ ks ∧ kn ≠ kq ∧ ks ≠ kq
  tt : ∀ k, vt.ownBlock = some k → k ≠ g ∧ k ≠ kn ∧ k ≠ ks ∧ k ≠ kq ∧ vn.ownBlock ≠ some k
  nn : ∀ k, vn.ownBlock = some k → k ≠ g ∧ k ≠ kn ∧ k ≠ ks ∧ k ≠ kq

section
variable {w w' : World} {base g kn ks kq : Nat} {who : List UInt8} {vt vn : Value} {out seen : List Tup} {ids notes known : List (List UInt8)}
theorem MxA.grown (h : MxA w base g who vt vn kn ks kq out ids seen notes known) {r : Nat} (hg : w.grownBy w' (some r)) (h1 : r ≠ g) (h2 : r ≠ kn) (h3 : r ≠ ks) (h4 : r ≠ kq) (h5 : vt.ownBlock ≠ some r) (h6 : vn.ownBlock ≠ some r) : MxA w' base g who vt vn kn ks kq out ids seen notes known := by
  obtain ⟨a1, a2, a3, ⟨D1, a4, b4⟩, ⟨D2, a5, b5⟩, ⟨D3, a6, b6⟩, a7, a8, a9, a10⟩ := h
  exact ⟨blk_grown a1 hg (Ne.symm h1), a2.kept hg (.inr h5), World.ownsRow.kept a3 hg (.inr h6), ⟨D1, a4.kept hg (by simpa using Ne.symm h2), b4⟩, ⟨D2, a5.kept hg (by simpa using Ne.symm h3), b5⟩, ⟨D3, a6.kept hg (by simpa using Ne.symm h4), b6⟩, a7, a8, a9, a10⟩
theorem MxA.below (h : MxA w base g who vt vn kn ks kq out ids seen notes known) (hB : Below w.heap.size w w') : MxA w' base g who vt vn kn ks kq out ids seen notes known := by
  obtain ⟨a1, a2, a3, ⟨D1, a4, b4⟩, ⟨D2, a5, b5⟩, ⟨D3, a6, b6⟩, a7, a8, a9, a10⟩ := h
  have k1 := a4.lt
  have k2 := a5.lt
  have k3 := a6.lt
  refine ⟨a1.call hB, ?_, Strs.below a3 hB (Nat.le_refl _), ⟨D1, own_below a4 hB k1, b4⟩, ⟨D2, own_below a5 hB k2, b5⟩, ⟨D3, own_below a6 hB k3, b6⟩, a7, a8, a9, a10⟩
  refine ⟨a2.1, ?_⟩
  rcases a2.2 with hn | ⟨g, cap, cur, rfl, hb, hgg, rest⟩
  · exact .inl hn
  · refine .inr ⟨g, cap, cur, rfl, hb, ?_, rest⟩
    have hlt := (Array.getElem?_eq_some_iff.1 hgg).1
    rw [hB.block g (by omega)]; exact hgg
theorem MxA.putS (h : MxA w base g who vt vn kn ks kq out ids seen notes known) {t : Tup} {D : DataW Unit} (hg : w.grownBy w' (some ks)) (ho : w'.ownsMap Tryd.prog 39 (plainElem Tryd.prog 3) ks (seen.length + 1) D) (hC : CntT D (seen ++ [t])) :
    MxA w' base g who vt vn kn ks kq out ids (seen ++ [t]) notes known := by
  obtain ⟨a1, a2, a3, ⟨D1, a4, b4⟩, ⟨D2, a5, b5⟩, ⟨D3, a6, b6⟩, a7, ⟨c1, c2, c3, c4, c5, c6⟩, a9, a10⟩ := h
  exact ⟨blk_grown a1 hg c2, a2.kept hg (.inr (fun e => (a9 _ e).2.2.1 rfl)), World.ownsRow.kept a3 hg (.inr (fun e => (a10 _ e).2.2.1 rfl)), ⟨D1, a4.kept hg (by simpa using c4), b4⟩, ⟨D, by rw [List.length_append]; exact ho, hC⟩, ⟨D3, a6.kept hg (by simpa using Ne.symm c6), b6⟩, a7, ⟨c1, c2, c3, c4, c5, c6⟩, a9, a10⟩
theorem MxA.putN (h : MxA w base g who vt vn kn ks kq out ids seen notes known) {t : List UInt8} {D : DataW Unit} (hg : w.grownBy w' (some kn)) (ho : w'.ownsMap Tryd.prog 9 (plainElem Tryd.prog 3) kn (ids.length + 1) D) (hC : CntS D (ids ++ [t])) :
    MxA w' base g who vt vn kn ks kq out (ids ++ [t]) seen notes known := by
  obtain ⟨a1, a2, a3, ⟨D1, a4, b4⟩, ⟨D2, a5, b5⟩, ⟨D3, a6, b6⟩, a7, ⟨c1, c2, c3, c4, c5, c6⟩, a9, a10⟩ := h
  exact ⟨blk_grown a1 hg c1, a2.kept hg (.inr (fun e => (a9 _ e).2.1 rfl)), World.ownsRow.kept a3 hg (.inr (fun e => (a10 _ e).2.1 rfl)), ⟨D, by rw [List.length_append]; exact ho, hC⟩, ⟨D2, a5.kept hg (by simpa using Ne.symm c4), b5⟩, ⟨D3, a6.kept hg (by simpa using Ne.symm c5), b6⟩, a7, ⟨c1, c2, c3, c4, c5, c6⟩, a9, a10⟩
theorem MxA.putQ (h : MxA w base g who vt vn kn ks kq out ids seen notes known) {t : List UInt8} {D : DataW Unit} (hg : w.grownBy w' (some kq)) (ho : w'.ownsMap Tryd.prog 9 (plainElem Tryd.prog 3) kq (known.length + 1) D) (hC : CntS D (known ++ [t])) :
    MxA w' base g who vt vn kn ks kq out ids seen notes (known ++ [t]) := by
  obtain ⟨a1, a2, a3, ⟨D1, a4, b4⟩, ⟨D2, a5, b5⟩, ⟨D3, a6, b6⟩, a7, ⟨c1, c2, c3, c4, c5, c6⟩, a9, a10⟩ := h
  exact ⟨blk_grown a1 hg c3, a2.kept hg (.inr (fun e => (a9 _ e).2.2.2.1 rfl)), World.ownsRow.kept a3 hg (.inr (fun e => (a10 _ e).2.2.2 rfl)), ⟨D1, a4.kept hg (by simpa using c5), b4⟩, ⟨D2, a5.kept hg (by simpa using c6), b5⟩, ⟨D, by rw [List.length_append]; exact ho, hC⟩, a7, ⟨c1, c2, c3, c4, c5, c6⟩, a9, a10⟩
theorem grown_setCell (w : World) (a : Addr) (u : Value) : w.grownBy (w.setCell a u) (some a.block) :=
  ⟨rfl, rfl, rfl, by simp, fun i _ hi => Below.heap_setCell w a u i (by intro e; exact hi (by rw [e]))⟩
/-- a new row of tuples, stored -/
theorem MxA.appT (h : MxA w base g who vt vn kn ks kq out ids seen notes known) {vt' : Value} {out' : List Tup} (hg : w.grownBy w' vt.ownBlock) (ho : Tups w' base vt' out') (hb : vt'.ownBlock = vt.ownBlock ∨ vt'.ownBlock = some w.heap.size) :
    MxA (w'.setCell ⟨g, 1, none⟩ vt') base g who vt' vn kn ks kq out' ids seen notes known := by
  obtain ⟨a1, a2, a3, ⟨D1, a4, b4⟩, ⟨D2, a5, b5⟩, ⟨D3, a6, b6⟩, a7, ⟨c1, c2, c3, c4, c5, c6⟩, a9, a10⟩ := h
  have l0 := a1.lt
  have l1 := a4.lt
  have l2 := a5.lt
  have l3 := a6.lt
  have ln : ∀ k, vn.ownBlock = some k → k < w.heap.size := fun k hk => (World.ownsRow.lt a3 k hk).2
  have n1 : ∀ k, vt.ownBlock = some k → k ≠ g := fun k hk => (a9 k hk).1
  have a9' : ∀ k, vt'.ownBlock = some k → k ≠ g ∧ k ≠ kn ∧ k ≠ ks ∧ k ≠ kq ∧ vn.ownBlock ≠ some k := by
    intro k hk
    rcases hb with hb | hb
    · exact a9 k (hb ▸ hk)
    · rw [hb] at hk
      injection hk with hk
      subst hk
      exact ⟨by omega, by omega, by omega, by omega, fun e => Nat.lt_irrefl _ (ln _ e)⟩
  have hs := grown_setCell w' ⟨g, 1, none⟩ vt'
  have e1 : w'.heap[g]? = w.heap[g]? := hg.block g l0 (fun e => (n1 g e.symm) rfl)
  have a1' : Blk w' g 45 #[sv who, vt, vn, .map (some kn), .map (some ks), .map (some kq)] := e1.trans a1
  have hbs : Blk (w'.setCell ⟨g, 1, none⟩ vt') g 45 #[sv who, vt', vn, .map (some kn), .map (some ks), .map (some kq)] := Blk.set_ a1' 1 vt'
  have q : ∀ k, (vt.ownBlock = some k → False) → some k ≠ vt.ownBlock := fun k h e => h e.symm
  refine ⟨hbs, ho.kept hs (.inr (fun e => (a9' _ e).1 rfl)), ?_, ⟨D1, (a4.kept hg (q _ fun e => (a9 _ e).2.1 rfl)).kept hs (by simpa using Ne.symm c1), b4⟩, ⟨D2, (a5.kept hg (q _ fun e => (a9 _ e).2.2.1 rfl)).kept hs (by simpa using Ne.symm c2), b5⟩, ⟨D3, (a6.kept hg (q _ fun e => (a9 _ e).2.2.2.1 rfl)).kept hs (by simpa using Ne.symm c3), b6⟩, a7, ⟨c1, c2, c3, c4, c5, c6⟩, a9', a10⟩
  have hv : vn.ownBlock = none ∨ vn.ownBlock ≠ vt.ownBlock := by
    cases hvn : vn.ownBlock with
    | none => exact .inl rfl
    | some k => exact .inr (fun e => (a9 k e.symm).2.2.2.2 hvn)
  exact (World.ownsRow.kept a3 hg hv).kept hs (.inr (fun e => (a10 _ e).1 rfl))
/-- a new row of notes, stored -/
theorem MxA.appN (h : MxA w base g who vt vn kn ks kq out ids seen notes known) {vn' : Value} {notes' : List (List UInt8)} (hg : w.grownBy w' vn.ownBlock) (ho : Strs w' base 9 vn' notes') (hb : vn'.ownBlock = vn.ownBlock ∨ vn'.ownBlock = some w.heap.size) :
    MxA (w'.setCell ⟨g, 2, none⟩ vn') base g who vt vn' kn ks kq out ids seen notes' known := by
  obtain ⟨a1, a2, a3, ⟨D1, a4, b4⟩, ⟨D2, a5, b5⟩, ⟨D3, a6, b6⟩, a7, ⟨c1, c2, c3, c4, c5, c6⟩, a9, a10⟩ := h
  have l0 := a1.lt
  have l1 := a4.lt
  have l2 := a5.lt
  have l3 := a6.lt
  have ln : ∀ k, vt.ownBlock = some k → k < w.heap.size := fun k hk => (World.ownsRow.lt a2 k hk).2
  have a10' : ∀ k, vn'.ownBlock = some k → k ≠ g ∧ k ≠ kn ∧ k ≠ ks ∧ k ≠ kq := by
    intro k hk
    rcases hb with hb | hb
    · exact a10 k (hb ▸ hk)
    · rw [hb] at hk
      injection hk with hk
      subst hk
      exact ⟨by omega, by omega, by omega, by omega⟩
  have a9' : ∀ k, vt.ownBlock = some k → k ≠ g ∧ k ≠ kn ∧ k ≠ ks ∧ k ≠ kq ∧ vn'.ownBlock ≠ some k := by
    intro k hk
    obtain ⟨d1, d2, d3, d4, d5⟩ := a9 k hk
    refine ⟨d1, d2, d3, d4, fun e => ?_⟩
    rcases hb with hb | hb
    · exact d5 (hb ▸ e)
    · rw [hb] at e
      injection e with e
      subst e
      exact Nat.lt_irrefl _ (ln _ hk)
  have hs := grown_setCell w' ⟨g, 2, none⟩ vn'
  have q : ∀ k, (vn.ownBlock = some k → False) → some k ≠ vn.ownBlock := fun k h e => h e.symm
  have e1 : w'.heap[g]? = w.heap[g]? := hg.block g l0 (q _ fun e => (a10 _ e).1 rfl)
  have a1' : Blk w' g 45 #[sv who, vt, vn, .map (some kn), .map (some ks), .map (some kq)] := e1.trans a1
  have hbs : Blk (w'.setCell ⟨g, 2, none⟩ vn') g 45 #[sv who, vt, vn', .map (some kn), .map (some ks), .map (some kq)] := Blk.set_ a1' 2 vn'
  refine ⟨hbs, ?_, World.ownsRow.kept ho hs (.inr (fun e => (a10' _ e).1 rfl)), ⟨D1, (a4.kept hg (q _ fun e => (a10 _ e).2.1 rfl)).kept hs (by simpa using Ne.symm c1), b4⟩, ⟨D2, (a5.kept hg (q _ fun e => (a10 _ e).2.2.1 rfl)).kept hs (by simpa using Ne.symm c2), b5⟩, ⟨D3, (a6.kept hg (q _ fun e => (a10 _ e).2.2.2 rfl)).kept hs (by simpa using Ne.symm c3), b6⟩, a7, ⟨c1, c2, c3, c4, c5, c6⟩, a9', a10'⟩
  have hv : vt.ownBlock = none ∨ vt.ownBlock ≠ vn.ownBlock := by
    cases hvn : vt.ownBlock with
    | none => exact .inl rfl
    | some k => exact .inr (fun e => (a9 k hvn).2.2.2.2 e.symm)
  exact (World.ownsRow.kept a2 hg hv).kept hs (.inr (fun e => (a9 _ e).1 rfl))
end
/-- append of a row that is read, to a row of the call's own: the row's block is the old one or a new one -/
theorem run_app_blkM {P : Program} (w : World) (base : Nat) (t ty e : TypeId) (i : TypeInfo) (z : Value) (size bytes : Nat) (ht : P.underlying t = some (.slice e)) (hi : P.info? e = some i) (hz : i.zero = some z)
    (hsize : i.size = size) (hby : i.bytes = bytes) (hzs : z.cells.size = size) (hsz : 0 < size)
    (v : Value) (n : Nat) (xs : List Value) (hown : w.ownsRow base e size v n xs)
    (ad : Addr) (m c : Nat) (news : List Value) (hl : news.length = m * size) (hnews : ∀ j u, news[j]? = some u → w.cell? (ad.add j) = some u) (h1 : ∀ u ∈ news, u.oneCell' = true) (hm : 0 < m)
    (h63 : n + m ≤ maxLen) (hbytes : (n + m) * bytes ≤ 140737488355328) (hbase : base ≤ w.heap.size) :
    ∃ v' w', (Builtin.append_ #[t, t] ty #[v, .slice (some ad) m c]).run P w = .ok v' w' ∧ w'.ownsRow base e size v' (n + m) (xs ++ news) ∧ w.grownBy w' v.ownBlock ∧ (v'.ownBlock = v.ownBlock ∨ v'.ownBlock = some w.heap.size) := by
  obtain ⟨v', w', hr, h2, h3, _⟩ := run_append_own (P := P) w base t ty e i z size bytes ht hi hz hsize hby hzs hsz v n xs hown ad m c news hl hnews h1 h63 hbytes hbase
  refine ⟨v', w', hr, h2, h3, ?_⟩
  subst hsize
  subst hby
  have hsmall : n + m ≤ 9223372036854775807 := by simp only [maxLen] at h63; omega
  rcases hown.2 with ⟨rfl, rfl⟩ | ⟨g, cap, cur, rfl, hbg, hg, hnc, hcm, hcs, htake⟩
  · have hr2 := run_append_nil (P := P) w t ty e i z ht hi hz ad m c news hl hnews hm (by omega) (by have hb := hbytes; simp only [Nat.zero_add] at hb; omega)
    rw [hr] at hr2
    injection hr2 with e1 e2
    exact .inr (by rw [e1]; rfl)
  · by_cases hroom : n + m ≤ cap
    · have hfit : n * i.size + news.length ≤ cur.size := by rw [hl, hcs, ← Nat.add_mul]; exact Nat.mul_le_mul_right _ hroom
      have hr2 := run_append_room (P := P) w t ty e i ht hi g n cap cur hg ad m c news hl hnews h1 hroom hfit
      rw [hr] at hr2
      injection hr2 with e1 e2
      exact .inl (by rw [e1]; rfl)
    · have holds : ∀ j u, xs[j]? = some u → w.cell? ((⟨g, 0, none⟩ : Addr).add j) = some u := hown.cells (g := g) rfl
      have hr2 := run_append_grow (P := P) w t ty e i z ht hi hz ⟨g, 0, none⟩ n cap xs hown.1 holds ad m c news hl hnews (by omega) (by omega) (growslice_fits (by omega) hbytes)
      rw [hr] at hr2
      injection hr2 with e1 e2
      exact .inr (by rw [e1]; rfl)

/-- the blocks that a mixer writes to -/
def MxX (g kn ks kq : Nat) (vt vn : Value) (b : Nat) : Prop := b = g ∨ b = kn ∨ b = ks ∨ b = kq ∨ vt.ownBlock = some b ∨ vn.ownBlock = some b
/-- nothing below base is touched, nor what lies outside of X -/
structure Bl (base : Nat) (X : Nat → Prop) (w w' : World) : Prop where
  below : Below base w w'
  base : base ≤ w.heap.size
  frame : ∀ b, b < w.heap.size → ¬ X b → w'.heap[b]? = w.heap[b]?
theorem Bl.start {base : Nat} {X : Nat → Prop} {w w' : World} (hb : base ≤ w.heap.size) (h : Below w.heap.size w w') : Bl base X w w' := ⟨h.mono hb, hb, fun b hlt _ => h.block b hlt⟩
theorem Bl.call {base : Nat} {X : Nat → Prop} {w w1 w2 : World} (h : Bl base X w w1) (hB : Below w1.heap.size w1 w2) : Bl base X w w2 :=
  ⟨h.below.trans (hB.mono (Nat.le_trans h.base h.below.size)), h.base, fun b hlt hx => (hB.block b (Nat.lt_of_lt_of_le hlt h.below.size)).trans (h.frame b hlt hx)⟩
theorem Bl.grown {base : Nat} {X : Nat → Prop} {w w1 w2 : World} {row : Option Nat} (h : Bl base X w w1) (hg : w1.grownBy w2 row) (hr : ∀ k, row = some k → base ≤ k ∧ (k < w.heap.size → X k)) : Bl base X w w2 :=
  ⟨h.below.grown hg (Nat.le_trans h.base h.below.size) (fun k hk => (hr k hk).1), h.base, fun b hlt hx => (hg.block b (Nat.lt_of_lt_of_le hlt h.below.size) (fun e => hx ((hr b e.symm).2 hlt))).trans (h.frame b hlt hx)⟩
theorem Bl.set {base : Nat} {X : Nat → Prop} {w w1 : World} (h : Bl base X w w1) {p : Addr} (hb : base ≤ p.block) (hx : p.block < w.heap.size → X p.block) (u : Value) : Bl base X w (w1.setCell p u) :=
  h.grown (grown_setCell w1 p u) (fun k hk => by injection hk with hk; rw [← hk]; exact ⟨hb, hx⟩)
theorem Bl.blk {base : Nat} {X : Nat → Prop} {w w1 : World} (h : Bl base X w w1) {g : Nat} {t : TypeId} {cs : Array Value} (hb : Blk w g t cs) (hx : ¬ X g) : Blk w1 g t cs := (h.frame g hb.lt hx).trans hb

end Go.Proofs.YtbljmjbialinkaaDoor
