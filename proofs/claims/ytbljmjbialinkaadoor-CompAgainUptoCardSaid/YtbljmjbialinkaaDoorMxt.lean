/-
  comp: (*mixer).tuple.
-/
import Derived.Test.YtbljmjbialinkaaDoorMxr
namespace Go.Proofs.YtbljmjbialinkaaDoor
set_option linter.unusedSimpArgs false
set_option linter.unusedVariables false
open Go.RowKit Go.Sort Go.Maps

section
variable {P : Program} {ops : Array Oper} {rest : List Oper} {o : Oper} {a : Act} {Q : Exit → Act → World → Prop}
/-- append of rows laid just now, to a row of the call's own -/
theorem op_appM {K : Act → World → Prop} {w : World} {base : Nat} {e t : TypeId} {z : Value} {size bytes : Nat} {v : Value} {n : Nat} {xs : List Value} {s x : Operand} {news : Array Value} {m : Nat}
    (ho : o.op = .call { callee := .builtin .append, args := #[s, x], argTypes := #[t, t] })
    (ht : P.underlying t = some (.slice e)) (hi : infoIs P e z size bytes) (hzs : z.cells.size = size) (hsz : 0 < size)
    (hx : a.eval x = .slice (some ⟨w.heap.size, 0, none⟩) m m) (hs : a.eval s = v) (hown : w.ownsRow base e size v n xs) (hm0 : 0 < m)
    (hm : news.size = m * size) (h1 : ∀ u ∈ news.toList, u.oneCell' = true) (hbytes : 0 < bytes) (hbd : (n + m) * bytes ≤ 140737488355328) (hbase : base ≤ w.heap.size)
    (h : ∀ v' w', w'.ownsRow base e size v' (n + m) (xs ++ news.toList) → (w.alloc (.cells news e)).grownBy w' v.ownBlock → (v'.ownBlock = v.ownBlock ∨ v'.ownBlock = some (w.alloc (.cells news e)).heap.size) → K (a.put o.dst v') w') :
    o.wp P a (w.alloc (.cells news e)) K Q := by
  obtain ⟨i, hi0, hi1, hi2, hi3⟩ := info_parts hi
  have hnm : n + m ≤ (n + m) * bytes := Nat.le_mul_of_pos_right _ hbytes
  obtain ⟨v', w', hr, h2, h3, h4⟩ := run_app_blkM (P := P) (w.alloc (.cells news e)) base t o.type e i z size bytes ht hi0 hi1 hi2 hi3 hzs hsz v n xs (hown.alloc _) ⟨w.heap.size, 0, none⟩ m m news.toList (by simpa using hm) (by
    intro j u hu
    have hadd : (⟨w.heap.size, 0, none⟩ : Addr).add j = ⟨w.heap.size, j, none⟩ := by unfold Addr.add; split <;> simp_all
    rw [hadd, World.cell?_alloc_at _ _ _ _ rfl]
    simpa using hu) h1 hm0 (by simp only [maxLen]; omega) hbd (by simp; omega)
  unfold Oper.wp execOp
  simp only [ho, resolve, invoke, builtin, Sem.run_bind, Sem.run_pure, Result.andThen_ok, List.map_toArray, List.map_cons, List.map_nil, hs, hx, hr]
  exact h v' w' h2 h3 h4
end
theorem row_formM {w : World} {base size n : Nat} {e : TypeId} {v : Value} {xs : List Value} (h : w.ownsRow base e size v n xs) : ∃ a c, v = .slice a n c := by
  rcases h.2 with ⟨rfl, h0⟩ | ⟨g, cap, cur, rfl, _⟩
  · exact ⟨none, 0, by rw [h0]⟩
  · exact ⟨_, _, rfl⟩
theorem infoT : infoIs Tryd.prog 39 (.agg #[.string ⟨#[]⟩, .bool false, .string ⟨#[]⟩, .int .i64 0, .string ⟨#[]⟩]) 5 64 := by unfold infoIs; kernel_rfl
theorem Tups.form0 {w : World} {base : Nat} {v : Value} {L : List Tup} (h : Tups w base v L) : ∃ ao cap, v = .slice ao L.length cap := by
  obtain ⟨ao, cap, e, _⟩ := RTups.form (RRow.of_own h); exact ⟨ao, cap, e⟩
theorem addT_same (num : Int) (m : Mix) (t : Tup) (h : t ∈ m.seen ∨ 16 ≤ m.out.length) : addT candP num m t = ⟨m.out, m.seen ++ [t], m.notes, m.known⟩ := by unfold addT; rw [if_pos h]
theorem addT_new (num : Int) (m : Mix) (t : Tup) (h1 : ¬ t ∈ m.seen) (h2 : ¬ 16 ≤ m.out.length) : addT candP num m t = ⟨m.out ++ [t.as (freeS candP (m.out.map Tup.id) num t.id)], m.seen ++ [t], m.notes, m.known⟩ := by
  unfold addT; rw [if_neg (by rintro (h | h); exact h1 h; exact h2 h)]

set_option maxRecDepth 100000 in
set_option maxHeartbeats 12800000 in
theorem mixT_c (base g : Nat) (who : List UInt8) (vt vn : Value) (kn ks kq : Nat) (out seen : List Tup) (notes known : List (List UInt8)) (t : Tup) (num : Int) (ht : TupBd 1048576 t) (hn0 : -9223372036854775808 ≤ num) (hn1 : num ≤ 9223372036854775807) (hout : out.length ≤ 16) (hseen : seen.length ≤ 1000000) (w : World)
    (h : MxA w base g who vt vn kn ks kq out (out.map Tup.id) seen notes known) :
    Calls Tryd.prog 12 #[.pointer (some ⟨g, 0, none⟩), t.val, .int .i64 num] w fun e w' => e = .returned (.tuple #[]) ∧ (∃ vt', MxA w' base g who vt' vn kn ks kq (addT candP num ⟨out, seen, notes, known⟩ t).out ((addT candP num ⟨out, seen, notes, known⟩ t).out.map Tup.id) (addT candP num ⟨out, seen, notes, known⟩ t).seen notes known ∧ ∀ k, vt'.ownBlock = some k → vt.ownBlock = some k ∨ w.heap.size ≤ k) ∧ Bl base (MxX g kn ks kq vt vn) w w' := by
  have hbase := h.bb.1
  have hbw : base ≤ w.heap.size := Nat.le_trans hbase (Nat.le_of_lt h.blk.lt)
  have hg0 := h.blk.lt
  obtain ⟨ao, cap, rfl⟩ := h.tups.form0
  have hgood : goodT t := ht.mono (by omega)
  obtain ⟨b1, b2, b3, b4, b5⟩ := ht
  have hkey := key_tup t hgood
  unfold Tup.val sv at hkey ⊢
  obtain ⟨I, hI⟩ : ∃ x, x = bs t.id := ⟨_, rfl⟩
  obtain ⟨C, hC⟩ : ∃ x, x = bs t.con := ⟨_, rfl⟩
  obtain ⟨N, hN⟩ : ∃ x, x = bs t.note := ⟨_, rfl⟩
  simp only [← hI, ← hC, ← hN] at hkey ⊢
  have HI := Lib.hid hI
  have HCN := Lib.hid (And.intro hC hN)
  clear hI hC hN
  have hB0 : Below w.heap.size w (w.alloc (.cells #[.string I, .bool t.opn, .string C, .int .i64 t.prio, .string N] 39)) := (Below.refl _ _).alloc (Nat.le_refl _) _
  have bm0 := Blk.new w 39 #[.string I, .bool t.opn, .string C, .int .i64 t.prio, .string N]
  have m0 := h.below hB0
  obtain ⟨w0, hw0⟩ : ∃ w0, w0 = w.alloc (.cells #[.string I, .bool t.opn, .string C, .int .i64 t.prio, .string N] 39) := ⟨_, rfl⟩
  rw [← hw0] at hB0 bm0 m0
  have HW0 := Lib.hid hw0
  have HB0 := Lib.hid (Bl.start (X := MxX g kn ks kq (.slice ao out.length cap) vn) hbw hB0)
  have HKY := Lib.hid hkey
  have HH := Lib.hid (show g < w.heap.size ∧ kn < w.heap.size ∧ ks < w.heap.size ∧ kq < w.heap.size ∧ (∀ k, (Value.slice ao out.length cap).ownBlock = some k → k < w.heap.size) ∧ (∀ k, vn.ownBlock = some k → k < w.heap.size) from by
    obtain ⟨Dn, l1, _⟩ := h.dn
    obtain ⟨Ds, l2, _⟩ := h.ds
    obtain ⟨Dq, l3, _⟩ := h.dq
    exact ⟨hg0, l1.lt, l2.lt, l3.lt, fun k hk => (World.ownsRow.lt h.tups k hk).2, fun k hk => (World.ownsRow.lt h.nts k hk).2⟩)
  clear hw0 h
  have hcs : (t ∈ seen) ∨ (¬ t ∈ seen ∧ 16 ≤ out.length) ∨ (¬ t ∈ seen ∧ ¬ 16 ≤ out.length) := by
    by_cases h1 : t ∈ seen
    · exact .inl h1
    · by_cases h2 : 16 ≤ out.length
      · exact .inr (.inl ⟨h1, h2⟩)
      · exact .inr (.inr ⟨h1, h2⟩)
  go_enter Tryd.func12, Tryd.ntmps12
  go_upto_region 1 with fail
  rw [← HW0.out]
  refine wp_region_any (by kernel_rfl) ?_
  try (change wpAny _ _ _ _ _ _ _ (World.drew _))
  have hD : Below w0.heap.size w0 w0.drew := Drn.below ⟨1, rfl⟩
  obtain ⟨wd, hwd⟩ : ∃ wd, wd = w0.drew := ⟨_, rfl⟩
  rw [← hwd] at hD ⊢
  have md := m0.below hD
  have bd := bm0.call hD
  have hBd := HB0.out.call hD
  clear hwd hD m0 bm0 hB0
  obtain ⟨Ds, hos, hcd⟩ := md.ds
  have hcst := cntT_step hcd t hgood
  have hcat := cntA_put isKey_T hcd t hgood (.lit (.int .i64 ((cntN seen t : Int) + 1)))
  have hcl := cntN_le seen t
  have hps := cntN_pos seen t
  obtain ⟨c1, hrun1, hat1, hwc1⟩ := hos.lookup_int lawT undMT undI (zeroI _) HKY.out
  have hc1 := cntA_at hcd t hgood c1 hat1
  obtain ⟨c0, hc0⟩ : ∃ c, c = cntN seen t := ⟨_, rfl⟩
  rw [← hc0] at hcst hcat hcl hps hc1
  clear hc0
  subst hc1
  have c00 : (0 : Int) ≤ (c0 : Int) := by omega
  have cbd : c0 ≤ 1000000 := by omega
  have hwr : IntKind.i64.wrap ((c0 : Int) + 1) = (c0 : Int) + 1 := IntWalk.i64_in _ (by omega)
  obtain ⟨v0, st, we, w2, hE, hS, ho2, hg2, hrunE⟩ := owns_entry (val := .int .i64 ((c0 : Int) + 1)) lawTk undMT undI zeroI hos (by unfold maxLen; omega) HKY.out (plainElem_int undI (WalkArith.wf_i64 (by omega))) hat1
  rw [← hwr] at hS
  clear hwr
  have m2 := md.putS hg2 ho2 hcst
  have b2 := blk_grown bd hg2 (by have := HH.out.2.2.1; omega)
  have hB2 := hBd.grown hg2 (fun k hk => by injection hk with hk; rw [← hk]; exact ⟨md.bb.2.2.1, fun _ => .inr (.inr (.inl rfl))⟩)
  obtain ⟨D2, hos2, hcd2⟩ := m2.ds
  have hrunN : ∀ n : Nat, (Instr.lookup 43 (.map (some ks)) (.agg #[.string I, .bool t.opn, .string C, .int .i64 t.prio, .string N]) false).run Tryd.prog (w2.drewN n) = .ok (.int .i64 ((c0 : Int) + 1)) (w2.drewN n) := by
    intro n
    have hon := own_below ho2 (Drn.below (B := w2.heap.size) (a := w2) (b := w2.drewN n) ⟨n, rfl⟩) ho2.lt
    obtain ⟨c3, hrun3, hat3, _⟩ := hon.lookup_int lawT undMT undI (zeroI _) HKY.out
    have : (c0 : Int) + 1 = c3 := by
      have := hcat.symm.trans hat3
      injection this with this
      injection this
    rw [this]; exact hrun3
  have M2 := Lib.hid m2
  have HB2 := Lib.hid hB2
  have B2 := Lib.hid b2
  obtain ⟨p0, p1, p2, p3, p4⟩ := blk_f5T bd
  have g4 : wd.cell? ⟨g, 4, none⟩ = some (.map (some ks)) := boxedCell md.blk 4
  clear hos hcd hat1 hwc1 ho2 hg2 hcst hcat hos2 hcd2 m2 hB2 b2 md bd hkey
  refine cutkM (A := fun wx => wx = w2) ?_ (fun cut => ?_) ?_
  rotate_left
  ·
    first | (refine wpAny_take (i := 0) (v := undef) rfl (by kernel_rfl) (by kernel_rfl) (by kernel_rfl) (fun _ _ _ h => h) (Or.inr ⟨by rfl, rfl⟩) ?_) | (refine wpAny_take (i := 0) (v := ?_) rfl (by kernel_rfl) (by kernel_rfl) (by kernel_rfl) (fun _ _ _ h => h) ?_ ?_; rotate_left; focus (refine Or.inl ⟨by rfl, ?_⟩; intro _; go_simp; first | done | with_reducible rfl | (rw [if_neg (by omega)]; done) | (rw [if_neg (by omega)]; with_reducible rfl)))
    try go_simp
    first | (refine wpAny_take (i := 1) (v := undef) rfl (by kernel_rfl) (by kernel_rfl) (by kernel_rfl) (fun _ _ _ h => h) (Or.inr ⟨by rfl, rfl⟩) ?_) | (refine wpAny_take (i := 1) (v := ?_) rfl (by kernel_rfl) (by kernel_rfl) (by kernel_rfl) (fun _ _ _ h => h) ?_ ?_; rotate_left; focus (refine Or.inl ⟨by rfl, ?_⟩; intro _; go_simp; first | done | with_reducible rfl | (rw [if_neg (by omega)]; done) | (rw [if_neg (by omega)]; with_reducible rfl)))
    try go_simp
    first | (refine wpAny_take (i := 2) (v := undef) rfl (by kernel_rfl) (by kernel_rfl) (by kernel_rfl) (fun _ _ _ h => h) (Or.inr ⟨by rfl, rfl⟩) ?_) | (refine wpAny_take (i := 2) (v := ?_) rfl (by kernel_rfl) (by kernel_rfl) (by kernel_rfl) (fun _ _ _ h => h) ?_ ?_; rotate_left; focus (refine Or.inl ⟨by rfl, ?_⟩; intro _; go_simp; first | done | with_reducible rfl | (rw [if_neg (by omega)]; done) | (rw [if_neg (by omega)]; with_reducible rfl)))
    try go_simp
    refine wpAny_ready (rs := [3, 4]) (by kernel_rfl) (by simp) ?_
    refine AllReady.cons rfl (fun K hK => ?_) ?_
    ·
      go_simp
      refine hK _ _ ?_; clear hK K
      refine wpAny_ready (rs := [4]) (by kernel_rfl) (by simp) ?_
      refine AllReady.cons rfl (fun K hK => ?_) ?_
      ·
        go_simp
        refine hK _ _ ?_; clear hK K
        refine wpAny_ready (rs := [5, 7]) (by kernel_rfl) (by simp) ?_
        refine AllReady.cons rfl (fun K hK => ?_) ?_
        ·
          go_simp
          refine hK _ _ ?_; clear hK K
          refine wpAny_ready (rs := [6, 7]) (by kernel_rfl) (by simp) ?_
          refine AllReady.cons rfl (fun K hK => ?_) ?_
          ·
            go_simp
            refine hK _ _ ?_; clear hK K
            refine wpAny_ready (rs := [7]) (by kernel_rfl) (by simp) ?_
            refine AllReady.cons rfl (fun K hK => ?_) ?_
            ·
              go_simp
              refine hK _ _ ?_; clear hK K
              refine wpAny_ready (rs := [8]) (by kernel_rfl) (by simp) ?_
              refine AllReady.cons rfl (fun K hK => ?_) ?_
              ·
                go_simp
                refine hK _ _ ?_; clear hK K
                refine wpAny_ready (rs := [9]) (by kernel_rfl) (by simp) ?_
                refine AllReady.cons rfl (fun K hK => ?_) ?_
                ·
                  go_simp
                  refine hK _ _ ?_; clear hK K
                  refine wpAny_done (by kernel_rfl) ?_ _
                  exact cut w2 rfl
                exact AllReady.nil
              exact AllReady.nil
            exact AllReady.nil
          refine AllReady.cons rfl (fun K hK => ?_) ?_
          ·
            go_simp
            refine hK _ _ ?_; clear hK K
            refine wpAny_ready (rs := [6, 8]) (by kernel_rfl) (by simp) ?_
            refine AllReady.cons rfl (fun K hK => ?_) ?_
            ·
              go_simp
              refine hK _ _ ?_; clear hK K
              refine wpAny_ready (rs := [8]) (by kernel_rfl) (by simp) ?_
              refine AllReady.cons rfl (fun K hK => ?_) ?_
              ·
                go_simp
                refine hK _ _ ?_; clear hK K
                refine wpAny_ready (rs := [9]) (by kernel_rfl) (by simp) ?_
                refine AllReady.cons rfl (fun K hK => ?_) ?_
                ·
                  go_simp
                  refine hK _ _ ?_; clear hK K
                  refine wpAny_done (by kernel_rfl) ?_ _
                  exact cut w2 rfl
                exact AllReady.nil
              exact AllReady.nil
            refine AllReady.cons rfl (fun K hK => ?_) ?_
            ·
              go_simp
              refine hK _ _ ?_; clear hK K
              refine wpAny_ready (rs := [6]) (by kernel_rfl) (by simp) ?_
              refine AllReady.cons rfl (fun K hK => ?_) ?_
              ·
                go_simp
                refine hK _ _ ?_; clear hK K
                refine wpAny_ready (rs := [9]) (by kernel_rfl) (by simp) ?_
                refine AllReady.cons rfl (fun K hK => ?_) ?_
                ·
                  go_simp
                  refine hK _ _ ?_; clear hK K
                  refine wpAny_done (by kernel_rfl) ?_ _
                  exact cut w2 rfl
                exact AllReady.nil
              exact AllReady.nil
            exact AllReady.nil
          exact AllReady.nil
        refine AllReady.cons rfl (fun K hK => ?_) ?_
        ·
          go_simp
          refine hK _ _ ?_; clear hK K
          refine wpAny_ready (rs := [5, 8]) (by kernel_rfl) (by simp) ?_
          refine AllReady.cons rfl (fun K hK => ?_) ?_
          ·
            go_simp
            refine hK _ _ ?_; clear hK K
            refine wpAny_ready (rs := [6, 8]) (by kernel_rfl) (by simp) ?_
            refine AllReady.cons rfl (fun K hK => ?_) ?_
            ·
              go_simp
              refine hK _ _ ?_; clear hK K
              refine wpAny_ready (rs := [8]) (by kernel_rfl) (by simp) ?_
              refine AllReady.cons rfl (fun K hK => ?_) ?_
              ·
                go_simp
                refine hK _ _ ?_; clear hK K
                refine wpAny_ready (rs := [9]) (by kernel_rfl) (by simp) ?_
                refine AllReady.cons rfl (fun K hK => ?_) ?_
                ·
                  go_simp
                  refine hK _ _ ?_; clear hK K
                  refine wpAny_done (by kernel_rfl) ?_ _
                  exact cut w2 rfl
                exact AllReady.nil
              exact AllReady.nil
            refine AllReady.cons rfl (fun K hK => ?_) ?_
            ·
              go_simp
              refine hK _ _ ?_; clear hK K
              refine wpAny_ready (rs := [6]) (by kernel_rfl) (by simp) ?_
              refine AllReady.cons rfl (fun K hK => ?_) ?_
              ·
                go_simp
                refine hK _ _ ?_; clear hK K
                refine wpAny_ready (rs := [9]) (by kernel_rfl) (by simp) ?_
                refine AllReady.cons rfl (fun K hK => ?_) ?_
                ·
                  go_simp
                  refine hK _ _ ?_; clear hK K
                  refine wpAny_done (by kernel_rfl) ?_ _
                  exact cut w2 rfl
                exact AllReady.nil
              exact AllReady.nil
            exact AllReady.nil
          refine AllReady.cons rfl (fun K hK => ?_) ?_
          ·
            go_simp
            refine hK _ _ ?_; clear hK K
            refine wpAny_ready (rs := [5]) (by kernel_rfl) (by simp) ?_
            refine AllReady.cons rfl (fun K hK => ?_) ?_
            ·
              go_simp
              refine hK _ _ ?_; clear hK K
              refine wpAny_ready (rs := [6]) (by kernel_rfl) (by simp) ?_
              refine AllReady.cons rfl (fun K hK => ?_) ?_
              ·
                go_simp
                refine hK _ _ ?_; clear hK K
                refine wpAny_ready (rs := [9]) (by kernel_rfl) (by simp) ?_
                refine AllReady.cons rfl (fun K hK => ?_) ?_
                ·
                  go_simp
                  refine hK _ _ ?_; clear hK K
                  refine wpAny_done (by kernel_rfl) ?_ _
                  exact cut w2 rfl
                exact AllReady.nil
              exact AllReady.nil
            exact AllReady.nil
          exact AllReady.nil
        exact AllReady.nil
      exact AllReady.nil
    refine AllReady.cons rfl (fun K hK => ?_) ?_
    ·
      go_simp
      refine hK _ _ ?_; clear hK K
      refine wpAny_ready (rs := [3]) (by kernel_rfl) (by simp) ?_
      refine AllReady.cons rfl (fun K hK => ?_) ?_
      ·
        go_simp
        refine hK _ _ ?_; clear hK K
        refine wpAny_ready (rs := [5, 7]) (by kernel_rfl) (by simp) ?_
        refine AllReady.cons rfl (fun K hK => ?_) ?_
        ·
          go_simp
          refine hK _ _ ?_; clear hK K
          refine wpAny_ready (rs := [6, 7]) (by kernel_rfl) (by simp) ?_
          refine AllReady.cons rfl (fun K hK => ?_) ?_
          ·
            go_simp
            refine hK _ _ ?_; clear hK K
            refine wpAny_ready (rs := [7]) (by kernel_rfl) (by simp) ?_
            refine AllReady.cons rfl (fun K hK => ?_) ?_
            ·
              go_simp
              refine hK _ _ ?_; clear hK K
              refine wpAny_ready (rs := [8]) (by kernel_rfl) (by simp) ?_
              refine AllReady.cons rfl (fun K hK => ?_) ?_
              ·
                go_simp
                refine hK _ _ ?_; clear hK K
                refine wpAny_ready (rs := [9]) (by kernel_rfl) (by simp) ?_
                refine AllReady.cons rfl (fun K hK => ?_) ?_
                ·
                  go_simp
                  refine hK _ _ ?_; clear hK K
                  refine wpAny_done (by kernel_rfl) ?_ _
                  exact cut w2 rfl
                exact AllReady.nil
              exact AllReady.nil
            exact AllReady.nil
          refine AllReady.cons rfl (fun K hK => ?_) ?_
          ·
            go_simp
            refine hK _ _ ?_; clear hK K
            refine wpAny_ready (rs := [6, 8]) (by kernel_rfl) (by simp) ?_
            refine AllReady.cons rfl (fun K hK => ?_) ?_
            ·
              go_simp
              refine hK _ _ ?_; clear hK K
              refine wpAny_ready (rs := [8]) (by kernel_rfl) (by simp) ?_
              refine AllReady.cons rfl (fun K hK => ?_) ?_
              ·
                go_simp
                refine hK _ _ ?_; clear hK K
                refine wpAny_ready (rs := [9]) (by kernel_rfl) (by simp) ?_
                refine AllReady.cons rfl (fun K hK => ?_) ?_
                ·
                  go_simp
                  refine hK _ _ ?_; clear hK K
                  refine wpAny_done (by kernel_rfl) ?_ _
                  exact cut w2 rfl
                exact AllReady.nil
              exact AllReady.nil
            refine AllReady.cons rfl (fun K hK => ?_) ?_
            ·
              go_simp
              refine hK _ _ ?_; clear hK K
              refine wpAny_ready (rs := [6]) (by kernel_rfl) (by simp) ?_
              refine AllReady.cons rfl (fun K hK => ?_) ?_
              ·
                go_simp
                refine hK _ _ ?_; clear hK K
                refine wpAny_ready (rs := [9]) (by kernel_rfl) (by simp) ?_
                refine AllReady.cons rfl (fun K hK => ?_) ?_
                ·
                  go_simp
                  refine hK _ _ ?_; clear hK K
                  refine wpAny_done (by kernel_rfl) ?_ _
                  exact cut w2 rfl
                exact AllReady.nil
              exact AllReady.nil
            exact AllReady.nil
          exact AllReady.nil
        refine AllReady.cons rfl (fun K hK => ?_) ?_
        ·
          go_simp
          refine hK _ _ ?_; clear hK K
          refine wpAny_ready (rs := [5, 8]) (by kernel_rfl) (by simp) ?_
          refine AllReady.cons rfl (fun K hK => ?_) ?_
          ·
            go_simp
            refine hK _ _ ?_; clear hK K
            refine wpAny_ready (rs := [6, 8]) (by kernel_rfl) (by simp) ?_
            refine AllReady.cons rfl (fun K hK => ?_) ?_
            ·
              go_simp
              refine hK _ _ ?_; clear hK K
              refine wpAny_ready (rs := [8]) (by kernel_rfl) (by simp) ?_
              refine AllReady.cons rfl (fun K hK => ?_) ?_
              ·
                go_simp
                refine hK _ _ ?_; clear hK K
                refine wpAny_ready (rs := [9]) (by kernel_rfl) (by simp) ?_
                refine AllReady.cons rfl (fun K hK => ?_) ?_
                ·
                  go_simp
                  refine hK _ _ ?_; clear hK K
                  refine wpAny_done (by kernel_rfl) ?_ _
                  exact cut w2 rfl
                exact AllReady.nil
              exact AllReady.nil
            refine AllReady.cons rfl (fun K hK => ?_) ?_
            ·
              go_simp
              refine hK _ _ ?_; clear hK K
              refine wpAny_ready (rs := [6]) (by kernel_rfl) (by simp) ?_
              refine AllReady.cons rfl (fun K hK => ?_) ?_
              ·
                go_simp
                refine hK _ _ ?_; clear hK K
                refine wpAny_ready (rs := [9]) (by kernel_rfl) (by simp) ?_
                refine AllReady.cons rfl (fun K hK => ?_) ?_
                ·
                  go_simp
                  refine hK _ _ ?_; clear hK K
                  refine wpAny_done (by kernel_rfl) ?_ _
                  exact cut w2 rfl
                exact AllReady.nil
              exact AllReady.nil
            exact AllReady.nil
          refine AllReady.cons rfl (fun K hK => ?_) ?_
          ·
            go_simp
            refine hK _ _ ?_; clear hK K
            refine wpAny_ready (rs := [5]) (by kernel_rfl) (by simp) ?_
            refine AllReady.cons rfl (fun K hK => ?_) ?_
            ·
              go_simp
              refine hK _ _ ?_; clear hK K
              refine wpAny_ready (rs := [6]) (by kernel_rfl) (by simp) ?_
              refine AllReady.cons rfl (fun K hK => ?_) ?_
              ·
                go_simp
                refine hK _ _ ?_; clear hK K
                refine wpAny_ready (rs := [9]) (by kernel_rfl) (by simp) ?_
                refine AllReady.cons rfl (fun K hK => ?_) ?_
                ·
                  go_simp
                  refine hK _ _ ?_; clear hK K
                  refine wpAny_done (by kernel_rfl) ?_ _
                  exact cut w2 rfl
                exact AllReady.nil
              exact AllReady.nil
            exact AllReady.nil
          exact AllReady.nil
        exact AllReady.nil
      exact AllReady.nil
    exact AllReady.nil
  clear p0 p1 p2 p3 p4 g4 hrun1 hE hS hrunE
  intro wx hwx
  subst hwx
  have hz0 : ¬ t ∈ seen → c0 = 0 := fun h => by rcases Nat.eq_zero_or_pos c0 with h0 | h0; exact h0; exact absurd (hps.1 h0) h
  obtain ⟨p0, p1, p2, p3, p4⟩ := blk_f5T B2.out
  have g4 : wx.cell? ⟨g, 4, none⟩ = some (.map (some ks)) := boxedCell M2.out.blk 4
  have g1 : wx.cell? ⟨g, 1, none⟩ = some (.slice ao out.length cap) := boxedCell M2.out.blk 1
  rcases hcs with hin | ⟨hnin, hlen⟩ | ⟨hnin, hlen⟩
  · have hc : (1 : Int) < (c0 : Int) + 1 := by have := hps.2 hin; omega
    have HM := Lib.hid (addT_same num ⟨out, seen, notes, known⟩ t (.inl hin))
    clear hps hin hz0
    go_upto_region 2 with fail
    go_quiet (fail)
    go_wp2
    refine bodyPost_ret (v := .tuple #[]) (by simp [results, Tryd.results12, go_sem]) rfl ?_
    rw [HM.out]
    exact ⟨rfl, ⟨_, M2.out.below (Drn.below ⟨_, rfl⟩), fun k hk => .inl hk⟩, HB2.out.call (Drn.below ⟨_, rfl⟩)⟩
  · have hc : ¬ (1 : Int) < (c0 : Int) + 1 := by have := hz0 hnin; omega
    have hl : (16 : Int) ≤ out.length := by omega
    have HM := Lib.hid (addT_same num ⟨out, seen, notes, known⟩ t (.inr hlen))
    clear hps hz0 hnin
    go_upto_region 2 with fail
    go_quiet (fail)
    go_wp2
    refine bodyPost_ret (v := .tuple #[]) (by simp [results, Tryd.results12, go_sem]) rfl ?_
    rw [HM.out]
    exact ⟨rfl, ⟨_, M2.out.below (Drn.below ⟨_, rfl⟩), fun k hk => .inl hk⟩, HB2.out.call (Drn.below ⟨_, rfl⟩)⟩
  · have hc : ¬ (1 : Int) < (c0 : Int) + 1 := by have := hz0 hnin; omega
    have hl : ¬ (16 : Int) ≤ out.length := by omega
    have HM := Lib.hid (addT_new num ⟨out, seen, notes, known⟩ t hnin hlen)
    clear hps hz0 hnin
    go_upto_region 2 with fail
    go_quiet (fail)
    have hD3 : Below wx.heap.size wx (wx.drewN nq) := Drn.below ⟨_, rfl⟩
    obtain ⟨w3, hw3⟩ : ∃ w3, w3 = wx.drewN nq := ⟨_, rfl⟩
    rw [← hw3] at hD3 ⊢
    have m3 := M2.out.below hD3
    have b3 := B2.out.call hD3
    have hB3 := HB2.out.call hD3
    clear hw3 hD3 p0 p1 p2 p3 p4 g4 g1 hrunN M2 B2 HB2
    obtain ⟨Dn, hon3, hcn3⟩ := m3.dn
    have HFR := Lib.hid (free_c g kn (out.map Tup.id).length Dn (out.map Tup.id) t.id num b1 hn0 hn1 (by rw [List.length_map]; exact hout) w3 (boxedCell m3.blk 3) m3.blk.lt hon3 hcn3)
    rw [← HI.out] at HFR
    obtain ⟨p0, p1, p2, p3, p4⟩ := blk_f5T b3
    clear hon3 hcn3
    go_upto_region 4 with (go_at_call 19; refine HFR.out.mono ?_; rintro e w4 ⟨i, rfl, hi, hil, hC4⟩; have HIi := Lib.hid hi; clear hi; clear p0 p1 p2 p3 p4; have b4 := b3.call hC4; have m4 := m3.below hC4; have hB4 := hB3.call hC4; have f4 := boxedFree b4 0; obtain ⟨p0, p1, p2, p3, p4⟩ := blk_f5T b4)
    obtain ⟨J, hJ⟩ : ∃ x, x = bs i := ⟨_, rfl⟩
    simp only [← hJ]
    have HJ := Lib.hid hJ
    have b5 : Blk (w4.setCell ⟨w.heap.size, 0, none⟩ (.string J)) w.heap.size 39 #[.string J, .bool t.opn, .string C, .int .i64 t.prio, .string N] := Blk.set_ b4 0 (.string J)
    have m5 := m4.grown (grown_setCell w4 ⟨w.heap.size, 0, none⟩ (.string J)) (show w.heap.size ≠ g by have := HH.out.1; omega) (show w.heap.size ≠ kn by have := HH.out.2.1; omega) (show w.heap.size ≠ ks by have := HH.out.2.2.1; omega) (show w.heap.size ≠ kq by have := HH.out.2.2.2.1; omega) (fun e => Nat.lt_irrefl _ (HH.out.2.2.2.2.1 _ e)) (fun e => Nat.lt_irrefl _ (HH.out.2.2.2.2.2 _ e))
    have hB5 := hB4.set (p := ⟨w.heap.size, 0, none⟩) (show base ≤ w.heap.size by omega) (fun h => absurd h (Nat.lt_irrefl _)) (.string J)
    refine wp_region_any (by kernel_rfl) ?_
    try (change wpAny _ _ _ _ _ _ _ (World.drew _))
    have hD : Below (w4.setCell ⟨w.heap.size, 0, none⟩ (.string J)).heap.size (w4.setCell ⟨w.heap.size, 0, none⟩ (.string J)) (w4.setCell ⟨w.heap.size, 0, none⟩ (.string J)).drew := Drn.below ⟨1, rfl⟩
    obtain ⟨wd, hwd⟩ : ∃ wd, wd = (w4.setCell ⟨w.heap.size, 0, none⟩ (.string J)).drew := ⟨_, rfl⟩
    rw [← hwd] at hD ⊢
    have md := m5.below hD
    have bd := b5.call hD
    have hBd := hB5.call hD
    clear hwd hD m5 b5 hB5 m4 b4 hB4 m3 b3 hB3 p0 p1 p2 p3 p4 f4 hJ hC4
    obtain ⟨Dn, hon, hcn⟩ := md.dn
    have hgi : goodS i := by unfold goodS; omega
    have hky := key_str i hgi
    have hcst := cntS_step hcn i hgi
    have hcl4 := cntN_le (out.map Tup.id) i
    obtain ⟨c4, hrun4, hat4, hwc4⟩ := hon.lookup_int lawS undM undI (zeroI _) hky
    have hc4 := cntA_at hcn i hgi c4 hat4
    obtain ⟨k4, hk4⟩ : ∃ c, c = cntN (out.map Tup.id) i := ⟨_, rfl⟩
    rw [← hk4] at hcst hcl4 hc4
    rw [List.length_map] at hcl4
    clear hk4
    subst hc4
    have k40 : (0 : Int) ≤ (k4 : Int) := by omega
    obtain ⟨w6, hU, ho6, hg6⟩ := hon.update (val := .int .i64 ((k4 : Int) + 1)) lawS undM (by rw [List.length_map]; unfold maxLen; omega) hky (plainElem_int undI (WalkArith.wf_i64 (by omega)))
    have hwr : IntKind.i64.wrap ((k4 : Int) + 1) = (k4 : Int) + 1 := IntWalk.i64_in _ (by omega)
    rw [← hwr] at hU
    clear hwr
    have m6 := md.putN hg6 ho6 hcst
    have b6 := blk_grown bd hg6 (by have := HH.out.2.1; omega)
    have hB6 := hBd.grown hg6 (fun k hk => by injection hk with hk; rw [← hk]; exact ⟨md.bb.2.1, fun _ => .inr (.inl rfl)⟩)
    unfold sv at hrun4 hU
    rw [← HJ.out] at hrun4 hU
    obtain ⟨p0, p1, p2, p3, p4⟩ := blk_f5T bd
    have g3 : wd.cell? ⟨g, 3, none⟩ = some (.map (some kn)) := boxedCell md.blk 3
    clear hon hcn hky hcst hat4 hwc4 ho6 hg6 md bd hBd
    refine cutkM (A := fun wx => wx = w6) ?_ (fun cut => ?_) ?_
    rotate_left
    ·
      first | (refine wpAny_take (i := 0) (v := undef) rfl (by kernel_rfl) (by kernel_rfl) (by kernel_rfl) (fun _ _ _ h => h) (Or.inr ⟨by rfl, rfl⟩) ?_) | (refine wpAny_take (i := 0) (v := ?_) rfl (by kernel_rfl) (by kernel_rfl) (by kernel_rfl) (fun _ _ _ h => h) ?_ ?_; rotate_left; focus (refine Or.inl ⟨by rfl, ?_⟩; intro _; go_simp; first | done | with_reducible rfl | (rw [if_neg (by omega)]; done) | (rw [if_neg (by omega)]; with_reducible rfl)))
      try go_simp
      first | (refine wpAny_take (i := 1) (v := undef) rfl (by kernel_rfl) (by kernel_rfl) (by kernel_rfl) (fun _ _ _ h => h) (Or.inr ⟨by rfl, rfl⟩) ?_) | (refine wpAny_take (i := 1) (v := ?_) rfl (by kernel_rfl) (by kernel_rfl) (by kernel_rfl) (fun _ _ _ h => h) ?_ ?_; rotate_left; focus (refine Or.inl ⟨by rfl, ?_⟩; intro _; go_simp; first | done | with_reducible rfl | (rw [if_neg (by omega)]; done) | (rw [if_neg (by omega)]; with_reducible rfl)))
      try go_simp
      first | (refine wpAny_take (i := 2) (v := undef) rfl (by kernel_rfl) (by kernel_rfl) (by kernel_rfl) (fun _ _ _ h => h) (Or.inr ⟨by rfl, rfl⟩) ?_) | (refine wpAny_take (i := 2) (v := ?_) rfl (by kernel_rfl) (by kernel_rfl) (by kernel_rfl) (fun _ _ _ h => h) ?_ ?_; rotate_left; focus (refine Or.inl ⟨by rfl, ?_⟩; intro _; go_simp; first | done | with_reducible rfl | (rw [if_neg (by omega)]; done) | (rw [if_neg (by omega)]; with_reducible rfl)))
      try go_simp
      first | (refine wpAny_take (i := 4) (v := undef) rfl (by kernel_rfl) (by kernel_rfl) (by kernel_rfl) (fun _ _ _ h => h) (Or.inr ⟨by rfl, rfl⟩) ?_) | (refine wpAny_take (i := 4) (v := ?_) rfl (by kernel_rfl) (by kernel_rfl) (by kernel_rfl) (fun _ _ _ h => h) ?_ ?_; rotate_left; focus (refine Or.inl ⟨by rfl, ?_⟩; intro _; go_simp; first | done | with_reducible rfl | (rw [if_neg (by omega)]; done) | (rw [if_neg (by omega)]; with_reducible rfl)))
      try go_simp
      refine wpAny_ready (rs := [3, 5]) (by kernel_rfl) (by simp) ?_
      refine AllReady.cons rfl (fun K hK => ?_) ?_
      ·
        go_simp
        refine hK _ _ ?_; clear hK K
        refine wpAny_ready (rs := [5]) (by kernel_rfl) (by simp) ?_
        refine AllReady.cons rfl (fun K hK => ?_) ?_
        ·
          go_simp
          refine hK _ _ ?_; clear hK K
          refine wpAny_ready (rs := [6]) (by kernel_rfl) (by simp) ?_
          refine AllReady.cons rfl (fun K hK => ?_) ?_
          ·
            go_simp
            refine hK _ _ ?_; clear hK K
            refine wpAny_ready (rs := [7]) (by kernel_rfl) (by simp) ?_
            refine AllReady.cons rfl (fun K hK => ?_) ?_
            ·
              go_simp
              refine hK _ _ ?_; clear hK K
              refine wpAny_ready (rs := [8]) (by kernel_rfl) (by simp) ?_
              refine AllReady.cons rfl (fun K hK => ?_) ?_
              ·
                go_simp
                refine hK _ _ ?_; clear hK K
                refine wpAny_done (by kernel_rfl) ?_ _
                exact cut w6 rfl
              exact AllReady.nil
            exact AllReady.nil
          exact AllReady.nil
        exact AllReady.nil
      refine AllReady.cons rfl (fun K hK => ?_) ?_
      ·
        go_simp
        refine hK _ _ ?_; clear hK K
        refine wpAny_ready (rs := [3]) (by kernel_rfl) (by simp) ?_
        refine AllReady.cons rfl (fun K hK => ?_) ?_
        ·
          go_simp
          refine hK _ _ ?_; clear hK K
          refine wpAny_ready (rs := [6]) (by kernel_rfl) (by simp) ?_
          refine AllReady.cons rfl (fun K hK => ?_) ?_
          ·
            go_simp
            refine hK _ _ ?_; clear hK K
            refine wpAny_ready (rs := [7]) (by kernel_rfl) (by simp) ?_
            refine AllReady.cons rfl (fun K hK => ?_) ?_
            ·
              go_simp
              refine hK _ _ ?_; clear hK K
              refine wpAny_ready (rs := [8]) (by kernel_rfl) (by simp) ?_
              refine AllReady.cons rfl (fun K hK => ?_) ?_
              ·
                go_simp
                refine hK _ _ ?_; clear hK K
                refine wpAny_done (by kernel_rfl) ?_ _
                exact cut w6 rfl
              exact AllReady.nil
            exact AllReady.nil
          exact AllReady.nil
        exact AllReady.nil
      exact AllReady.nil
    clear p0 p1 p2 p3 p4 g3 hrun4 hU
    intro wx2 hwx
    subst hwx
    go_upto_region 5 with fail
    refine wp_region_any (by kernel_rfl) ?_
    try (change wpAny _ _ _ _ _ _ _ (World.drew _))
    have hD : Below wx2.heap.size wx2 wx2.drew := Drn.below ⟨1, rfl⟩
    obtain ⟨w7, hw7⟩ : ∃ w7, w7 = wx2.drew := ⟨_, rfl⟩
    rw [← hw7] at hD ⊢
    have m7 := m6.below hD
    have b7 := b6.call hD
    have hB7 := hB6.call hD
    clear hw7 hD m6 b6 hB6
    have hA7 : Below w7.heap.size w7 (w7.alloc (.cells #[.string J, .bool t.opn, .string C, .int .i64 t.prio, .string N] 39)) := (Below.refl _ _).alloc (Nat.le_refl _) _
    have ma := m7.below hA7
    obtain ⟨p0, p1, p2, p3, p4⟩ := blk_f5T b7
    have g1 : w7.cell? ⟨g, 1, none⟩ = some (.slice ao out.length cap) := boxedCell m7.blk 1
    have g1a : (w7.alloc (.cells #[.string J, .bool t.opn, .string C, .int .i64 t.prio, .string N] 39)).cell? ⟨g, 1, none⟩ = some (.slice ao out.length cap) := boxedCell ma.blk 1
    have HSZ := Lib.hid (show base ≤ w7.heap.size ∧ w.heap.size ≤ w7.heap.size from ⟨by have := hB7.below.size; omega, hB7.below.size⟩)
    have HSZ2 := Lib.hid (show w.heap.size ≤ (w7.alloc (.cells #[.string J, .bool t.opn, .string C, .int .i64 t.prio, .string N] 39)).heap.size by have := HSZ.out.2; rw [World.size_alloc]; omega)
    have HBD := Lib.hid (hB7.call hA7)
    have MD := Lib.hid m7
    have HB8 := Lib.hid (fun (w8 : World) (h3 : World.grownBy (w7.alloc (.cells #[.string J, .bool t.opn, .string C, .int .i64 t.prio, .string N] 39)) w8 (Value.slice ao out.length cap).ownBlock) => (show Blk w8 g 45 _ from (h3.block g ma.blk.lt (fun e => (ma.tt g e.symm).1 rfl)).trans ma.blk))
    have HFIN := Lib.hid (fun (v' : Value) (w8 : World) (h2 : w8.ownsRow base 39 5 v' (out.length + 1) (out.flatMap rowT ++ (#[.string J, .bool t.opn, .string C, .int .i64 t.prio, .string N] : Array Value).toList)) (h3 : World.grownBy (w7.alloc (.cells #[.string J, .bool t.opn, .string C, .int .i64 t.prio, .string N] 39)) w8 (Value.slice ao out.length cap).ownBlock) (h4 : v'.ownBlock = (Value.slice ao out.length cap).ownBlock ∨ v'.ownBlock = some (w7.alloc (.cells #[.string J, .bool t.opn, .string C, .int .i64 t.prio, .string N] 39)).heap.size) => (show MxA (w8.setCell ⟨g, 1, none⟩ v') base g who v' vn kn ks kq (out ++ [t.as (freeS candP (out.map Tup.id) num t.id)]) ((out ++ [t.as (freeS candP (out.map Tup.id) num t.id)]).map Tup.id) (seen ++ [t]) notes known from by
      rw [← HIi.out]
      have e1 : (out ++ [t.as i]).map Tup.id = out.map Tup.id ++ [i] := by rw [List.map_append]; rfl
      rw [e1]
      refine ma.appT h3 ?_ h4
      show w8.ownsRow base 39 5 v' (out ++ [t.as i]).length ((out ++ [t.as i]).flatMap rowT)
      rw [List.length_append, List.flatMap_append]
      have e2 : [t.as i].flatMap rowT = (#[.string J, .bool t.opn, .string C, .int .i64 t.prio, .string N] : Array Value).toList := by
        rw [HJ.out, HCN.out.1, HCN.out.2]; rfl
      rw [e2]
      exact h2))
    clear hB7 b7 m7 hA7 ma
    first | (refine wpAny_take (i := 0) (v := undef) rfl (by kernel_rfl) (by kernel_rfl) (by kernel_rfl) (fun _ _ _ h => h) (Or.inr ⟨by rfl, rfl⟩) ?_) | (refine wpAny_take (i := 0) (v := ?_) rfl (by kernel_rfl) (by kernel_rfl) (by kernel_rfl) (fun _ _ _ h => h) ?_ ?_; rotate_left; focus (refine Or.inl ⟨by rfl, ?_⟩; intro _; go_simp; first | done | with_reducible rfl | (rw [if_neg (by omega)]; done) | (rw [if_neg (by omega)]; with_reducible rfl)))
    try go_simp
    first | (refine wpAny_take (i := 1) (v := undef) rfl (by kernel_rfl) (by kernel_rfl) (by kernel_rfl) (fun _ _ _ h => h) (Or.inr ⟨by rfl, rfl⟩) ?_) | (refine wpAny_take (i := 1) (v := ?_) rfl (by kernel_rfl) (by kernel_rfl) (by kernel_rfl) (fun _ _ _ h => h) ?_ ?_; rotate_left; focus (refine Or.inl ⟨by rfl, ?_⟩; intro _; go_simp; first | done | with_reducible rfl | (rw [if_neg (by omega)]; done) | (rw [if_neg (by omega)]; with_reducible rfl)))
    try go_simp
    first | (refine wpAny_take (i := 2) (v := undef) rfl (by kernel_rfl) (by kernel_rfl) (by kernel_rfl) (fun _ _ _ h => h) (Or.inr ⟨by rfl, rfl⟩) ?_) | (refine wpAny_take (i := 2) (v := ?_) rfl (by kernel_rfl) (by kernel_rfl) (by kernel_rfl) (fun _ _ _ h => h) ?_ ?_; rotate_left; focus (refine Or.inl ⟨by rfl, ?_⟩; intro _; go_simp; first | done | with_reducible rfl | (rw [if_neg (by omega)]; done) | (rw [if_neg (by omega)]; with_reducible rfl)))
    try go_simp
    first | (refine wpAny_take (i := 3) (v := undef) rfl (by kernel_rfl) (by kernel_rfl) (by kernel_rfl) (fun _ _ _ h => h) (Or.inr ⟨by rfl, rfl⟩) ?_) | (refine wpAny_take (i := 3) (v := ?_) rfl (by kernel_rfl) (by kernel_rfl) (by kernel_rfl) (fun _ _ _ h => h) ?_ ?_; rotate_left; focus (refine Or.inl ⟨by rfl, ?_⟩; intro _; go_simp; first | done | with_reducible rfl | (rw [if_neg (by omega)]; done) | (rw [if_neg (by omega)]; with_reducible rfl)))
    try go_simp
    first | (refine wpAny_take (i := 4) (v := undef) rfl (by kernel_rfl) (by kernel_rfl) (by kernel_rfl) (fun _ _ _ h => h) (Or.inr ⟨by rfl, rfl⟩) ?_) | (refine wpAny_take (i := 4) (v := ?_) rfl (by kernel_rfl) (by kernel_rfl) (by kernel_rfl) (fun _ _ _ h => h) ?_ ?_; rotate_left; focus (refine Or.inl ⟨by rfl, ?_⟩; intro _; go_simp; first | done | with_reducible rfl | (rw [if_neg (by omega)]; done) | (rw [if_neg (by omega)]; with_reducible rfl)))
    try go_simp
    refine wpAny_ready (rs := [5, 6]) (by kernel_rfl) (by simp) ?_
    refine AllReady.cons rfl (fun K hK => ?_) ?_
    ·
      go_simp
      refine hK _ _ ?_; clear hK K
      refine wpAny_ready (rs := [6]) (by kernel_rfl) (by simp) ?_
      refine AllReady.cons rfl (fun K hK => ?_) ?_
      ·
        go_simp
        refine hK _ _ ?_; clear hK K
        refine wpAny_ready (rs := [7]) (by kernel_rfl) (by simp) ?_
        refine AllReady.cons rfl (fun K hK => ?_) ?_
        ·
          go_simp
          refine hK _ _ ?_; clear hK K
          refine wpAny_ready (rs := [8]) (by kernel_rfl) (by simp) ?_
          refine AllReady.cons rfl (fun K hK => ?_) ?_
          ·
            refine op_appM (v := .slice ao out.length cap) (n := out.length) (m := 1) (news := #[.string J, .bool t.opn, .string C, .int .i64 t.prio, .string N]) rfl Tryd.underlying22 infoT rfl (by decide) rfl rfl MD.out.tups (by decide) rfl (by intro u hu; simp at hu; rcases hu with rfl | rfl | rfl | rfl | rfl <;> rfl) (by decide) (by omega) HSZ.out.1 (fun v' w8 h2 h3 h4 => ?_)
            try go_simp
            refine hK _ _ ?_; clear hK K
            obtain ⟨a8, k8, rfl⟩ := row_formM h2
            have b8 : Blk w8 g 45 _ := HB8.out w8 h3
            have f8 := boxedFree b8 1
            have c8 := boxedCell b8 1
            first | (refine wpAny_take (i := 9) (v := undef) rfl (by kernel_rfl) (by kernel_rfl) (by kernel_rfl) (fun _ _ _ h => h) (Or.inr ⟨by rfl, rfl⟩) ?_) | (refine wpAny_take (i := 9) (v := ?_) rfl (by kernel_rfl) (by kernel_rfl) (by kernel_rfl) (fun _ _ _ h => h) ?_ ?_; rotate_left; focus (refine Or.inl ⟨by rfl, ?_⟩; intro _; go_simp; first | done | with_reducible rfl | (rw [if_neg (by omega)]; done) | (rw [if_neg (by omega)]; with_reducible rfl)))
            try go_simp
            first | (refine wpAny_take (i := 10) (v := undef) rfl (by kernel_rfl) (by kernel_rfl) (by kernel_rfl) (fun _ _ _ h => h) (Or.inr ⟨by rfl, rfl⟩) ?_) | (refine wpAny_take (i := 10) (v := ?_) rfl (by kernel_rfl) (by kernel_rfl) (by kernel_rfl) (fun _ _ _ h => h) ?_ ?_; rotate_left; focus (refine Or.inl ⟨by rfl, ?_⟩; intro _; go_simp; first | done | with_reducible rfl | (rw [if_neg (by omega)]; done) | (rw [if_neg (by omega)]; with_reducible rfl)))
            try go_simp
            first | (refine wpAny_take (i := 11) (v := undef) rfl (by kernel_rfl) (by kernel_rfl) (by kernel_rfl) (fun _ _ _ h => h) (Or.inr ⟨by rfl, rfl⟩) ?_) | (refine wpAny_take (i := 11) (v := ?_) rfl (by kernel_rfl) (by kernel_rfl) (by kernel_rfl) (fun _ _ _ h => h) ?_ ?_; rotate_left; focus (refine Or.inl ⟨by rfl, ?_⟩; intro _; go_simp; first | done | with_reducible rfl | (rw [if_neg (by omega)]; done) | (rw [if_neg (by omega)]; with_reducible rfl)))
            try go_simp
            refine wpAny_ready (rs := [12]) (by kernel_rfl) (by simp) ?_
            refine AllReady.cons rfl (fun K hK => ?_) ?_
            ·
              go_simp
              refine hK _ _ ?_; clear hK K
              refine wpAny_done (by kernel_rfl) ?_ _
              go_wp2
              go_end0
              rw [HM.out]
              exact ⟨rfl, ⟨_, HFIN.out _ w8 h2 h3 h4, fun k hk => by rcases h4 with h4 | h4; exact .inl (h4 ▸ hk); exact .inr (by rw [h4] at hk; injection hk with hk; have := HSZ2.out; omega)⟩, (HBD.out.grown h3 (fun k hk => ⟨(World.ownsRow.lt MD.out.tups k hk).1, fun _ => .inr (.inr (.inr (.inr (.inl hk))))⟩)).set (p := ⟨g, 1, none⟩) hbase (fun _ => .inl rfl) _⟩
            exact AllReady.nil
          exact AllReady.nil
        exact AllReady.nil
      exact AllReady.nil
    refine AllReady.cons rfl (fun K hK => ?_) ?_
    ·
      go_simp
      refine hK _ _ ?_; clear hK K
      refine wpAny_ready (rs := [5, 7]) (by kernel_rfl) (by simp) ?_
      refine AllReady.cons rfl (fun K hK => ?_) ?_
      ·
        go_simp
        refine hK _ _ ?_; clear hK K
        refine wpAny_ready (rs := [7]) (by kernel_rfl) (by simp) ?_
        refine AllReady.cons rfl (fun K hK => ?_) ?_
        ·
          go_simp
          refine hK _ _ ?_; clear hK K
          refine wpAny_ready (rs := [8]) (by kernel_rfl) (by simp) ?_
          refine AllReady.cons rfl (fun K hK => ?_) ?_
          ·
            refine op_appM (v := .slice ao out.length cap) (n := out.length) (m := 1) (news := #[.string J, .bool t.opn, .string C, .int .i64 t.prio, .string N]) rfl Tryd.underlying22 infoT rfl (by decide) rfl rfl MD.out.tups (by decide) rfl (by intro u hu; simp at hu; rcases hu with rfl | rfl | rfl | rfl | rfl <;> rfl) (by decide) (by omega) HSZ.out.1 (fun v' w8 h2 h3 h4 => ?_)
            try go_simp
            refine hK _ _ ?_; clear hK K
            obtain ⟨a8, k8, rfl⟩ := row_formM h2
            have b8 : Blk w8 g 45 _ := HB8.out w8 h3
            have f8 := boxedFree b8 1
            have c8 := boxedCell b8 1
            first | (refine wpAny_take (i := 9) (v := undef) rfl (by kernel_rfl) (by kernel_rfl) (by kernel_rfl) (fun _ _ _ h => h) (Or.inr ⟨by rfl, rfl⟩) ?_) | (refine wpAny_take (i := 9) (v := ?_) rfl (by kernel_rfl) (by kernel_rfl) (by kernel_rfl) (fun _ _ _ h => h) ?_ ?_; rotate_left; focus (refine Or.inl ⟨by rfl, ?_⟩; intro _; go_simp; first | done | with_reducible rfl | (rw [if_neg (by omega)]; done) | (rw [if_neg (by omega)]; with_reducible rfl)))
            try go_simp
            first | (refine wpAny_take (i := 10) (v := undef) rfl (by kernel_rfl) (by kernel_rfl) (by kernel_rfl) (fun _ _ _ h => h) (Or.inr ⟨by rfl, rfl⟩) ?_) | (refine wpAny_take (i := 10) (v := ?_) rfl (by kernel_rfl) (by kernel_rfl) (by kernel_rfl) (fun _ _ _ h => h) ?_ ?_; rotate_left; focus (refine Or.inl ⟨by rfl, ?_⟩; intro _; go_simp; first | done | with_reducible rfl | (rw [if_neg (by omega)]; done) | (rw [if_neg (by omega)]; with_reducible rfl)))
            try go_simp
            first | (refine wpAny_take (i := 11) (v := undef) rfl (by kernel_rfl) (by kernel_rfl) (by kernel_rfl) (fun _ _ _ h => h) (Or.inr ⟨by rfl, rfl⟩) ?_) | (refine wpAny_take (i := 11) (v := ?_) rfl (by kernel_rfl) (by kernel_rfl) (by kernel_rfl) (fun _ _ _ h => h) ?_ ?_; rotate_left; focus (refine Or.inl ⟨by rfl, ?_⟩; intro _; go_simp; first | done | with_reducible rfl | (rw [if_neg (by omega)]; done) | (rw [if_neg (by omega)]; with_reducible rfl)))
            try go_simp
            refine wpAny_ready (rs := [12]) (by kernel_rfl) (by simp) ?_
            refine AllReady.cons rfl (fun K hK => ?_) ?_
            ·
              go_simp
              refine hK _ _ ?_; clear hK K
              refine wpAny_done (by kernel_rfl) ?_ _
              go_wp2
              go_end0
              rw [HM.out]
              exact ⟨rfl, ⟨_, HFIN.out _ w8 h2 h3 h4, fun k hk => by rcases h4 with h4 | h4; exact .inl (h4 ▸ hk); exact .inr (by rw [h4] at hk; injection hk with hk; have := HSZ2.out; omega)⟩, (HBD.out.grown h3 (fun k hk => ⟨(World.ownsRow.lt MD.out.tups k hk).1, fun _ => .inr (.inr (.inr (.inr (.inl hk))))⟩)).set (p := ⟨g, 1, none⟩) hbase (fun _ => .inl rfl) _⟩
            exact AllReady.nil
          exact AllReady.nil
        exact AllReady.nil
      refine AllReady.cons rfl (fun K hK => ?_) ?_
      ·
        go_simp
        refine hK _ _ ?_; clear hK K
        refine wpAny_ready (rs := [5]) (by kernel_rfl) (by simp) ?_
        refine AllReady.cons rfl (fun K hK => ?_) ?_
        ·
          go_simp
          refine hK _ _ ?_; clear hK K
          refine wpAny_ready (rs := [8]) (by kernel_rfl) (by simp) ?_
          refine AllReady.cons rfl (fun K hK => ?_) ?_
          ·
            refine op_appM (v := .slice ao out.length cap) (n := out.length) (m := 1) (news := #[.string J, .bool t.opn, .string C, .int .i64 t.prio, .string N]) rfl Tryd.underlying22 infoT rfl (by decide) rfl rfl MD.out.tups (by decide) rfl (by intro u hu; simp at hu; rcases hu with rfl | rfl | rfl | rfl | rfl <;> rfl) (by decide) (by omega) HSZ.out.1 (fun v' w8 h2 h3 h4 => ?_)
            try go_simp
            refine hK _ _ ?_; clear hK K
            obtain ⟨a8, k8, rfl⟩ := row_formM h2
            have b8 : Blk w8 g 45 _ := HB8.out w8 h3
            have f8 := boxedFree b8 1
            have c8 := boxedCell b8 1
            first | (refine wpAny_take (i := 9) (v := undef) rfl (by kernel_rfl) (by kernel_rfl) (by kernel_rfl) (fun _ _ _ h => h) (Or.inr ⟨by rfl, rfl⟩) ?_) | (refine wpAny_take (i := 9) (v := ?_) rfl (by kernel_rfl) (by kernel_rfl) (by kernel_rfl) (fun _ _ _ h => h) ?_ ?_; rotate_left; focus (refine Or.inl ⟨by rfl, ?_⟩; intro _; go_simp; first | done | with_reducible rfl | (rw [if_neg (by omega)]; done) | (rw [if_neg (by omega)]; with_reducible rfl)))
            try go_simp
            first | (refine wpAny_take (i := 10) (v := undef) rfl (by kernel_rfl) (by kernel_rfl) (by kernel_rfl) (fun _ _ _ h => h) (Or.inr ⟨by rfl, rfl⟩) ?_) | (refine wpAny_take (i := 10) (v := ?_) rfl (by kernel_rfl) (by kernel_rfl) (by kernel_rfl) (fun _ _ _ h => h) ?_ ?_; rotate_left; focus (refine Or.inl ⟨by rfl, ?_⟩; intro _; go_simp; first | done | with_reducible rfl | (rw [if_neg (by omega)]; done) | (rw [if_neg (by omega)]; with_reducible rfl)))
            try go_simp
            first | (refine wpAny_take (i := 11) (v := undef) rfl (by kernel_rfl) (by kernel_rfl) (by kernel_rfl) (fun _ _ _ h => h) (Or.inr ⟨by rfl, rfl⟩) ?_) | (refine wpAny_take (i := 11) (v := ?_) rfl (by kernel_rfl) (by kernel_rfl) (by kernel_rfl) (fun _ _ _ h => h) ?_ ?_; rotate_left; focus (refine Or.inl ⟨by rfl, ?_⟩; intro _; go_simp; first | done | with_reducible rfl | (rw [if_neg (by omega)]; done) | (rw [if_neg (by omega)]; with_reducible rfl)))
            try go_simp
            refine wpAny_ready (rs := [12]) (by kernel_rfl) (by simp) ?_
            refine AllReady.cons rfl (fun K hK => ?_) ?_
            ·
              go_simp
              refine hK _ _ ?_; clear hK K
              refine wpAny_done (by kernel_rfl) ?_ _
              go_wp2
              go_end0
              rw [HM.out]
              exact ⟨rfl, ⟨_, HFIN.out _ w8 h2 h3 h4, fun k hk => by rcases h4 with h4 | h4; exact .inl (h4 ▸ hk); exact .inr (by rw [h4] at hk; injection hk with hk; have := HSZ2.out; omega)⟩, (HBD.out.grown h3 (fun k hk => ⟨(World.ownsRow.lt MD.out.tups k hk).1, fun _ => .inr (.inr (.inr (.inr (.inl hk))))⟩)).set (p := ⟨g, 1, none⟩) hbase (fun _ => .inl rfl) _⟩
            exact AllReady.nil
          exact AllReady.nil
        exact AllReady.nil
      exact AllReady.nil
    exact AllReady.nil

end Go.Proofs.YtbljmjbialinkaaDoor
