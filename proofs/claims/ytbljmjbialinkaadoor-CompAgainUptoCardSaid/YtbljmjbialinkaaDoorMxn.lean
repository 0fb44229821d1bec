/-
  comp: (*mixer).note.
-/
import Derived.Test.YtbljmjbialinkaaDoorMxt
namespace Go.Proofs.YtbljmjbialinkaaDoor
set_option linter.unusedSimpArgs false
set_option linter.unusedVariables false
open Go.RowKit Go.Sort Go.Maps

section
variable {P : Program} {ops : Array Oper} {rest : List Oper} {o : Oper} {a : Act} {Q : Exit → Act → World → Prop}
theorem wpList_appM {w : World} {base : Nat} {e t : TypeId} {z : Value} {size bytes : Nat} {v : Value} {n : Nat} {xs : List Value} {s x : Operand} {news : Array Value} {m : Nat}
    (hgd : o.guard = none) (ho : o.op = .call { callee := .builtin .append, args := #[s, x], argTypes := #[t, t] })
    (ht : P.underlying t = some (.slice e)) (hi : infoIs P e z size bytes) (hzs : z.cells.size = size) (hsz : 0 < size)
    (hx : a.eval x = .slice (some ⟨w.heap.size, 0, none⟩) m m) (hs : a.eval s = v) (hown : w.ownsRow base e size v n xs) (hm0 : 0 < m)
    (hm : news.size = m * size) (h1 : ∀ u ∈ news.toList, u.oneCell' = true) (hbytes : 0 < bytes) (hbd : (n + m) * bytes ≤ 140737488355328) (hbase : base ≤ w.heap.size)
    (h : ∀ v' w', w'.ownsRow base e size v' (n + m) (xs ++ news.toList) → (w.alloc (.cells news e)).grownBy w' v.ownBlock → (v'.ownBlock = v.ownBlock ∨ v'.ownBlock = some (w.alloc (.cells news e)).heap.size) → wpList P ops Q rest (a.put o.dst v') w') :
    wpList P ops Q (o :: rest) a (w.alloc (.cells news e)) :=
  wpList_plain hgd fun _ hK => op_appM ho ht hi hzs hsz hx hs hown hm0 hm h1 hbytes hbd hbase (fun v' w' h2 h3 h4 => hK _ _ (h v' w' h2 h3 h4))
end
theorem infoS0 : infoIs Tryd.prog 9 (.string ⟨#[]⟩) 1 16 := by unfold infoIs; kernel_rfl
theorem addN_same (m : Mix) (s : List UInt8) (h : s ∈ m.known ∨ 16 ≤ m.notes.length) : addN m s = ⟨m.out, m.seen, m.notes, m.known ++ [s]⟩ := by unfold addN; rw [if_pos h]
theorem addN_new (m : Mix) (s : List UInt8) (h1 : ¬ s ∈ m.known) (h2 : ¬ 16 ≤ m.notes.length) : addN m s = ⟨m.out, m.seen, m.notes ++ [s], m.known ++ [s]⟩ := by
  unfold addN; rw [if_neg (by rintro (h | h); exact h1 h; exact h2 h)]

set_option maxRecDepth 100000 in
set_option maxHeartbeats 12800000 in
theorem mixN_c (base g : Nat) (who : List UInt8) (vt vn : Value) (kn ks kq : Nat) (out seen : List Tup) (ids notes known : List (List UInt8)) (s : List UInt8) (hs : s.length ≤ 1048576) (hout : notes.length ≤ 16) (hseen : known.length ≤ 1000000) (w : World)
    (h : MxA w base g who vt vn kn ks kq out ids seen notes known) :
    Calls Tryd.prog 13 #[.pointer (some ⟨g, 0, none⟩), sv s] w fun e w' => e = .returned (.tuple #[]) ∧ (∃ vn', MxA w' base g who vt vn' kn ks kq out ids seen (addN ⟨out, seen, notes, known⟩ s).notes (addN ⟨out, seen, notes, known⟩ s).known ∧ ∀ k, vn'.ownBlock = some k → vn.ownBlock = some k ∨ w.heap.size ≤ k) ∧ Bl base (MxX g kn ks kq vt vn) w w' := by
  have hbase := h.bb.1
  have hbw : base ≤ w.heap.size := Nat.le_trans hbase (Nat.le_of_lt h.blk.lt)
  have hg0 := h.blk.lt
  obtain ⟨ao, cap, rfl⟩ := row_formM h.nts
  have hgood : goodS s := by unfold goodS; omega
  have hky := key_str s hgood
  obtain ⟨Dq, hoq, hcq⟩ := h.dq
  have hcst := cntS_step hcq s hgood
  have hcat := cntA_put isKey_S hcq s hgood (.lit (.int .i64 ((cntN known s : Int) + 1)))
  have hcl := cntN_le known s
  have hps := cntN_pos known s
  obtain ⟨c1, hrun1, hat1, hwc1⟩ := hoq.lookup_int lawS undM undI (zeroI _) hky
  have hc1 := cntA_at hcq s hgood c1 hat1
  obtain ⟨c0, hc0⟩ : ∃ c, c = cntN known s := ⟨_, rfl⟩
  rw [← hc0] at hcst hcat hcl hps hc1
  clear hc0
  subst hc1
  have c00 : (0 : Int) ≤ (c0 : Int) := by omega
  have HK := Lib.hid hky
  have HQ := Lib.hid hoq
  have HST := Lib.hid hcst
  have HCD := Lib.hid (fun (c : Int) (h : (Dq.put (keyS s) (.lit (.int .i64 ((c0 : Int) + 1)))).atKey (keyS s) (.lit (.int .i64 0)) = .lit (.int .i64 c)) => (show (c0 : Int) + 1 = c from by have := hcat.symm.trans h; injection this with this; injection this))
  have H0 := Lib.hid h
  have g5 : w.cell? ⟨g, 5, none⟩ = some (.map (some kq)) := boxedCell h.blk 5
  have hkq := hoq.lt
  have hkq2 := h.bb.2.2.2
  have HNE := Lib.hid (show g ≠ kq from h.ap.2.2.1)
  have hcs : (s ∈ known ∧ c0 ≠ 0) ∨ (¬ s ∈ known ∧ c0 = 0 ∧ 16 ≤ notes.length) ∨ (¬ s ∈ known ∧ c0 = 0 ∧ ¬ 16 ≤ notes.length) := by
    by_cases h1 : s ∈ known
    · exact .inl ⟨h1, by have := hps.2 h1; omega⟩
    · have h3 : c0 = 0 := by rcases Nat.eq_zero_or_pos c0 with h0 | h0; exact h0; exact absurd (hps.1 h0) h1
      by_cases h2 : 16 ≤ notes.length
      · exact .inr (.inl ⟨h1, h3, h2⟩)
      · exact .inr (.inr ⟨h1, h3, h2⟩)
  clear hcst hcat hat1 hwc1 hps hky hoq hcq h
  unfold sv at hrun1 HK ⊢
  obtain ⟨S, hS⟩ : ∃ x, x = bs s := ⟨_, rfl⟩
  rw [← hS] at hrun1 HK ⊢
  have HS := Lib.hid hS
  clear hS
  rcases hcs with ⟨hin, hz⟩ | ⟨hnin, hz, hlen⟩ | ⟨hnin, hz, hlen⟩
  · have HM := Lib.hid (addN_same ⟨out, seen, notes, known⟩ s (.inl hin))
    have t1 : ((c0 : Int) + 1 == 1) = false := by rw [beq_eq_false_iff_ne]; omega
    clear hin hz
    go_enter Tryd.func13, Tryd.ntmps13
    go_wp2_with (at_mapUpdate; refine wpList_mapUpdate_own _ rfl _ _ _ 42 rfl 9 3 lawS undM _ kq known.length _ rfl HQ.out (by unfold maxLen; omega) _ _ _ rfl rfl HK.out _ [] (plainElem_int undI (WalkArith.wf_i64 (by omega))) ?_; intro w2 ho2 hg2; have m2 := H0.out.putQ hg2 ho2 HST.out; have HB2 := Lib.hid ((Bl.start (X := MxX g kn ks kq vt (.slice ao notes.length cap)) hbw (Below.refl _ _)).grown hg2 (fun j hj => by injection hj with hj; rw [← hj]; exact ⟨hkq2, fun _ => .inr (.inr (.inr (.inl rfl)))⟩)); have HSZ := Lib.hid (show base ≤ w2.heap.size by have := HB2.out.below.size; omega); have hAB : Below w2.heap.size w2 (w2.alloc (.cells #[.string S] 9)) := (Below.refl _ _).alloc (Nat.le_refl _) _; obtain ⟨c2, hrun2, hat2, hwc2⟩ := ho2.lookup_int lawS undM undI (zeroI _) HK.out; obtain rfl := HCD.out c2 hat2; clear hat2 hwc2; have q5 : w2.cell? ⟨g, 5, none⟩ = some (.map (some kq)) := boxedCell m2.blk 5; have q2 : w2.cell? ⟨g, 2, none⟩ = some (.slice ao notes.length cap) := boxedCell m2.blk 2; clear g5 hrun1)
    go_end0
    rw [HM.out]
    exact ⟨rfl, ⟨_, m2, fun k hk => .inl hk⟩, HB2.out⟩
  · have HM := Lib.hid (addN_same ⟨out, seen, notes, known⟩ s (.inr hlen))
    have t1 : ((c0 : Int) + 1 == 1) = true := by rw [beq_iff_eq]; omega
    have hl : ¬ (notes.length : Int) < 16 := by omega
    clear hnin hz
    go_enter Tryd.func13, Tryd.ntmps13
    go_wp2_with (at_mapUpdate; refine wpList_mapUpdate_own _ rfl _ _ _ 42 rfl 9 3 lawS undM _ kq known.length _ rfl HQ.out (by unfold maxLen; omega) _ _ _ rfl rfl HK.out _ [] (plainElem_int undI (WalkArith.wf_i64 (by omega))) ?_; intro w2 ho2 hg2; have m2 := H0.out.putQ hg2 ho2 HST.out; have HB2 := Lib.hid ((Bl.start (X := MxX g kn ks kq vt (.slice ao notes.length cap)) hbw (Below.refl _ _)).grown hg2 (fun j hj => by injection hj with hj; rw [← hj]; exact ⟨hkq2, fun _ => .inr (.inr (.inr (.inl rfl)))⟩)); have HSZ := Lib.hid (show base ≤ w2.heap.size by have := HB2.out.below.size; omega); have hAB : Below w2.heap.size w2 (w2.alloc (.cells #[.string S] 9)) := (Below.refl _ _).alloc (Nat.le_refl _) _; obtain ⟨c2, hrun2, hat2, hwc2⟩ := ho2.lookup_int lawS undM undI (zeroI _) HK.out; obtain rfl := HCD.out c2 hat2; clear hat2 hwc2; have q5 : w2.cell? ⟨g, 5, none⟩ = some (.map (some kq)) := boxedCell m2.blk 5; have q2 : w2.cell? ⟨g, 2, none⟩ = some (.slice ao notes.length cap) := boxedCell m2.blk 2; clear g5 hrun1)
    go_end0
    rw [HM.out]
    exact ⟨rfl, ⟨_, m2, fun k hk => .inl hk⟩, HB2.out⟩
  · have HM := Lib.hid (addN_new ⟨out, seen, notes, known⟩ s hnin hlen)
    have t1 : ((c0 : Int) + 1 == 1) = true := by rw [beq_iff_eq]; omega
    have hl : (notes.length : Int) < 16 := by omega
    clear hnin hz
    go_enter Tryd.func13, Tryd.ntmps13
    go_wp2_with (first | (at_mapUpdate; refine wpList_mapUpdate_own _ rfl _ _ _ 42 rfl 9 3 lawS undM _ kq known.length _ rfl HQ.out (by unfold maxLen; omega) _ _ _ rfl rfl HK.out _ [] (plainElem_int undI (WalkArith.wf_i64 (by omega))) ?_; intro w2 ho2 hg2; have m2 := H0.out.putQ hg2 ho2 HST.out; have HB2 := Lib.hid ((Bl.start (X := MxX g kn ks kq vt (.slice ao notes.length cap)) hbw (Below.refl _ _)).grown hg2 (fun j hj => by injection hj with hj; rw [← hj]; exact ⟨hkq2, fun _ => .inr (.inr (.inr (.inl rfl)))⟩)); have HSZ := Lib.hid (show base ≤ w2.heap.size by have := HB2.out.below.size; omega); have hAB : Below w2.heap.size w2 (w2.alloc (.cells #[.string S] 9)) := (Below.refl _ _).alloc (Nat.le_refl _) _; obtain ⟨c2, hrun2, hat2, hwc2⟩ := ho2.lookup_int lawS undM undI (zeroI _) HK.out; obtain rfl := HCD.out c2 hat2; clear hat2 hwc2; have q5 : w2.cell? ⟨g, 5, none⟩ = some (.map (some kq)) := boxedCell m2.blk 5; have q2 : w2.cell? ⟨g, 2, none⟩ = some (.slice ao notes.length cap) := boxedCell m2.blk 2; clear g5 hrun1) | (at_builtin; refine wpList_appM (v := .slice ao notes.length cap) (n := notes.length) (m := 1) (news := #[.string S]) rfl rfl Tryd.underlying23 infoS0 rfl (by decide) rfl rfl m2.nts (by decide) rfl (by intro u hu; simp at hu; rw [hu]; rfl) (by decide) (by omega) HSZ.out ?_; intro v' w8 h2 h3 h4; obtain ⟨a8, k8, rfl⟩ := row_formM h2; have b8 : Blk w8 g 45 _ := (h3.block g ((m2.below hAB).blk).lt (fun e => (m2.nn g e.symm).1 rfl)).trans (m2.below hAB).blk; have f8 := boxedFree b8 2; have c8 := boxedCell b8 2))
    go_end0
    rw [HM.out]
    refine ⟨rfl, ⟨_, (m2.below hAB).appN h3 ?_ h4, fun k hk => by rcases h4 with h4 | h4; exact .inl (h4 ▸ hk); exact .inr (by rw [h4, World.size_alloc] at hk; injection hk with hk; have := HB2.out.below.size; omega)⟩, ((HB2.out.call hAB).grown h3 (fun k hk => ⟨(World.ownsRow.lt m2.nts k hk).1, fun _ => .inr (.inr (.inr (.inr (.inr hk))))⟩)).set (p := ⟨g, 2, none⟩) hbase (fun _ => .inl rfl) _⟩
    show w8.ownsRow base 9 1 _ (notes ++ [s]).length ((notes ++ [s]).map sv)
    rw [List.length_append, List.map_append]
    have e2 : [s].map sv = (#[.string S] : Array Value).toList := by rw [HS.out]; rfl
    rw [e2]
    exact h2

end Go.Proofs.YtbljmjbialinkaaDoor
