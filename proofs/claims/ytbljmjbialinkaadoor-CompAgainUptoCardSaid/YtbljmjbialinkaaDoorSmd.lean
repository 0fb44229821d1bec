/-
  rosterref14.Same: are two documents the same; rosterlaw17.t; rosterlaw17.small.
-/
import Derived.Test.YtbljmjbialinkaaDoorComH
namespace Go.Proofs.YtbljmjbialinkaaDoor
set_option linter.unusedSimpArgs false
set_option linter.unusedVariables false
open Go.RowKit Go.Sort Go.Maps

def sameDoc (a b : Doc) : Bool := (a.ent == b.ent) && (a.tups == b.tups) && (a.notes == b.notes)
theorem sameDoc_self (a : Doc) : sameDoc a a = true := by unfold sameDoc; simp
theorem sameDoc_of {a b : Doc} (h : a = b) : sameDoc a b = true := by rw [h]; exact sameDoc_self b
theorem tup_eq (p q : Tup) : (p == q) = (((bs p.id).toList == (bs q.id).toList) && (p.opn == q.opn) && ((bs p.con).toList == (bs q.con).toList) && (p.prio == q.prio) && ((bs p.note).toList == (bs q.note).toList)) := by
  simp only [toList_us, us_bs]
  obtain ⟨a1, a2, a3, a4, a5⟩ := p
  obtain ⟨b1, b2, b3, b4, b5⟩ := q
  rw [Bool.eq_iff_iff]
  simp [and_assoc]
theorem tups_drop (L M : List Tup) (k : Nat) (h1 : k < L.length) (h2 : k < M.length) : (L.drop k == M.drop k) = ((L[k] == M[k]) && (L.drop (k + 1) == M.drop (k + 1))) := by
  rw [List.drop_eq_getElem_cons h1, List.drop_eq_getElem_cons h2]; rfl
theorem beq_len {α : Type} [DecidableEq α] (L M : List α) (h : L.length ≠ M.length) : (L == M) = false := by
  rw [beq_eq_false_iff_ne]; intro e; exact h (by rw [e])

set_option maxRecDepth 100000 in
set_option maxHeartbeats 6400000 in
theorem sameDoc_c (va vb : Value) (a b : Doc) (w : World) (ha : RDoc w va a) (hb : RDoc w vb b) :
    Calls Tryd.prog 9 #[va, vb] w fun e w' => e = .returned (.bool (sameDoc a b)) ∧ Below w.heap.size w w' := by
  obtain ⟨u1, u2, rfl, h1, h2⟩ := ha
  obtain ⟨v1, v2, rfl, k1, k2⟩ := hb
  have HT := Lib.hid (fun wx (hx : Below w.heap.size w wx) => texts_c u2 v2 a.notes b.notes wx (RRow.below h2 hx (Nat.le_refl _)) (RRow.below k2 hx (Nat.le_refl _)))
  obtain ⟨ao, ac, rfl, hm1, c1⟩ := h1.form
  obtain ⟨bo, bc, rfl, _, _⟩ := h2.formT
  obtain ⟨co, cc, rfl, hm2, c2⟩ := k1.form
  obtain ⟨eo, ec, rfl, _, _⟩ := k2.formT
  have C1 := Lib.hid c1
  have C2 := Lib.hid c2
  unfold maxLen at hm1 hm2
  have hs : sameDoc a b = (((bs a.ent).toList == (bs b.ent).toList) && (a.tups == b.tups) && (a.notes == b.notes)) := by unfold sameDoc; simp only [toList_us, us_bs]
  obtain ⟨SD, hSD⟩ : ∃ x, x = sameDoc a b := ⟨_, rfl⟩
  rw [← hSD] at hs ⊢
  unfold sv
  obtain ⟨A, hA⟩ : ∃ x, x = bs a.ent := ⟨_, rfl⟩
  obtain ⟨B, hB⟩ : ∃ x, x = bs b.ent := ⟨_, rfl⟩
  rw [← hA, ← hB] at hs
  rw [← hA, ← hB]
  clear hSD hA hB c1 c2 h1 h2 k1 k2
  have hB0 : Below w.heap.size w ((w.alloc (.cells #[.string A, .slice ao a.tups.length ac, .slice bo a.notes.length bc] 25)).alloc (.cells #[.string B, .slice co b.tups.length cc, .slice eo b.notes.length ec] 25)) := ((Below.refl _ _).alloc (Nat.le_refl _) _).alloc (by rw [World.size_alloc]; omega) _
  have q1 := (Blk.new w 25 #[.string A, .slice ao a.tups.length ac, .slice bo a.notes.length bc]).alloc (.cells #[.string B, .slice co b.tups.length cc, .slice eo b.notes.length ec] 25)
  have q2 := Blk.new (w.alloc (.cells #[.string A, .slice ao a.tups.length ac, .slice bo a.notes.length bc] 25)) 25 #[.string B, .slice co b.tups.length cc, .slice eo b.notes.length ec]
  rw [World.size_alloc] at q2
  obtain ⟨w0, hw0⟩ : ∃ w0, w0 = ((w.alloc (.cells #[.string A, .slice ao a.tups.length ac, .slice bo a.notes.length bc] 25)).alloc (.cells #[.string B, .slice co b.tups.length cc, .slice eo b.notes.length ec] 25)) := ⟨_, rfl⟩
  rw [← hw0] at hB0 q1 q2
  have HW0 := Lib.hid hw0
  obtain ⟨p0, p1, p2⟩ := blk_f3T q1
  obtain ⟨r0, r1, r2⟩ := blk_f3T q2
  clear hw0
  have hcs : ((A.toList == B.toList) = false ∧ SD = false) ∨ ((A.toList == B.toList) = true ∧ ((a.tups.length : Int) != (b.tups.length : Int)) = true ∧ SD = false) ∨ ((A.toList == B.toList) = true ∧ ((a.tups.length : Int) != (b.tups.length : Int)) = false ∧ (a.notes == b.notes) = false ∧ SD = false) ∨
      ((A.toList == B.toList) = true ∧ ((a.tups.length : Int) != (b.tups.length : Int)) = false ∧ (a.notes == b.notes) = true ∧ SD = (a.tups == b.tups)) := by
    rw [hs]
    cases (A.toList == B.toList)
    · exact .inl ⟨rfl, rfl⟩
    · by_cases hl : a.tups.length = b.tups.length
      · have e : ((a.tups.length : Int) != (b.tups.length : Int)) = false := by rw [bne_eq_false_iff_eq]; omega
        cases (a.notes == b.notes)
        · exact .inr (.inr (.inl ⟨rfl, e, rfl, by simp⟩))
        · exact .inr (.inr (.inr ⟨rfl, e, rfl, by simp⟩))
      · exact .inr (.inl ⟨rfl, by rw [bne_iff_ne]; omega, by rw [beq_len _ _ hl]; simp⟩)
  clear hs
  rcases hcs with ⟨t1, hz⟩ | ⟨t1, t2, hz⟩ | ⟨t1, t2, t3, hz⟩ | ⟨t1, t2, t3, hz⟩
  case inr.inr.inr =>
    have hle1 : a.tups.length ≤ b.tups.length := by have := bne_eq_false_iff_eq.1 t2; omega
    have hle2 : b.tups.length ≤ a.tups.length := by have := bne_eq_false_iff_eq.1 t2; omega
    rw [t3] at HT
    have HZ := Lib.hid hz
    clear hz t3
    go_enter Tryd.func9, Tryd.ntmps9
    go_wp2_with (go_at_call 15; (try rw [← HW0.out]); refine (HT.out _ hB0).mono ?_; rintro e w1 ⟨rfl, hD1⟩; have hB1 := hB0.trans (hD1.below (B := w.heap.size)); have s1 := Blk.call q1 (hD1.below (B := w0.heap.size)); have s2 := Blk.call q2 (hD1.below (B := w0.heap.size)))
    clear p0 p1 p2 r0 r1 r2
    go_loopw [5] (fun i wr => ∃ k : Nat, k ≤ a.tups.length ∧ i = .int .i64 k ∧ Hid (Drn w1 wr) ∧ Hid ((a.tups.drop k == b.tups.drop k) = (a.tups == b.tups))) (fun i _ => a.tups.length - (intOf i).toNat)
    case atStart => exact ⟨0, Nat.zero_le _, rfl, Lib.hid (Drn.refl _), Lib.hid rfl⟩
    case round =>
      obtain ⟨k, hk, rfl, HD, HB⟩ := hrel
      have hBr := hB1.trans (HD.out.below (B := w.heap.size))
      obtain ⟨p0, p1, p2⟩ := blk_f3T (Blk.call s1 (HD.out.below (B := w1.heap.size)))
      obtain ⟨r0, r1, r2⟩ := blk_f3T (Blk.call s2 (HD.out.below (B := w1.heap.size)))
      by_cases hlt : k < a.tups.length
      · have hlt' : k < b.tups.length := by omega
        obtain ⟨b1, o1, rfl, hb1, hc1⟩ := C1.out (by omega)
        obtain ⟨b2, o2, rfl, hb2, hc2⟩ := C2.out (by omega)
        have hd := Lib.hid (tups_drop a.tups b.tups k hlt hlt')
        have HPE := Lib.hid (tup_eq a.tups[k] b.tups[k])
        obtain ⟨x0, x1, x2, x3, x4⟩ := hc1 k hlt
        obtain ⟨y0, y1, y2, y3, y4⟩ := hc2 k hlt'
        have ux : ∀ o, wr.cell? ⟨b1, o, none⟩ = w.cell? ⟨b1, o, none⟩ := fun o => hBr.cell (p := ⟨b1, o, none⟩) hb1
        have uy : ∀ o, wr.cell? ⟨b2, o, none⟩ = w.cell? ⟨b2, o, none⟩ := fun o => hBr.cell (p := ⟨b2, o, none⟩) hb2
        rw [← ux] at x0 x1 x2 x3 x4
        rw [← uy] at y0 y1 y2 y3 y4
        obtain ⟨P, hP⟩ : ∃ P, P = a.tups[k] := ⟨_, rfl⟩
        obtain ⟨Q, hQ⟩ : ∃ Q, Q = b.tups[k] := ⟨_, rfl⟩
        simp only [← hP] at x0 x1 x2 x3 x4 HPE hd
        simp only [← hQ] at y0 y1 y2 y3 y4 HPE hd
        unfold sv at x0 x2 x4 y0 y2 y4
        obtain ⟨A0, hA0⟩ : ∃ A, A = bs P.id := ⟨_, rfl⟩
        obtain ⟨A2, hA2⟩ : ∃ A, A = bs P.con := ⟨_, rfl⟩
        obtain ⟨A4, hA4⟩ : ∃ A, A = bs P.note := ⟨_, rfl⟩
        obtain ⟨B0, hB0'⟩ : ∃ A, A = bs Q.id := ⟨_, rfl⟩
        obtain ⟨B2, hB2'⟩ : ∃ A, A = bs Q.con := ⟨_, rfl⟩
        obtain ⟨B4, hB4'⟩ : ∃ A, A = bs Q.note := ⟨_, rfl⟩
        obtain ⟨A1, hA1⟩ : ∃ A, A = P.opn := ⟨_, rfl⟩
        obtain ⟨B1, hB1'⟩ : ∃ A, A = Q.opn := ⟨_, rfl⟩
        obtain ⟨A3, hA3⟩ : ∃ A, A = P.prio := ⟨_, rfl⟩
        obtain ⟨B3, hB3'⟩ : ∃ A, A = Q.prio := ⟨_, rfl⟩
        rw [← hA0] at x0 HPE
        rw [← hA1] at x1 HPE
        rw [← hA2] at x2 HPE
        rw [← hA3] at x3 HPE
        rw [← hA4] at x4 HPE
        rw [← hB0'] at y0 HPE
        rw [← hB1'] at y1 HPE
        rw [← hB2'] at y2 HPE
        rw [← hB3'] at y3 HPE
        rw [← hB4'] at y4 HPE
        have k0 : (0 : Int) ≤ (k : Int) := by omega
        have k1 : (k : Int) < (a.tups.length : Int) := by omega
        have k2 : (k : Int) < (b.tups.length : Int) := by omega
        clear hA0 hA1 hA2 hA3 hA4 hB0' hB1' hB2' hB3' hB4' hP hQ hc1 hc2 hb1 hb2 ux uy
        have hcase : ((A0.toList == B0.toList) = true ∧ (A1 == B1) = true ∧ (A2.toList == B2.toList) = true ∧ (A3 == B3) = true ∧ (A4.toList == B4.toList) = true) ∨ ((A0.toList == B0.toList) = false) ∨ ((A0.toList == B0.toList) = true ∧ (A1 == B1) = false) ∨
            ((A0.toList == B0.toList) = true ∧ (A1 == B1) = true ∧ (A2.toList == B2.toList) = false) ∨ ((A0.toList == B0.toList) = true ∧ (A1 == B1) = true ∧ (A2.toList == B2.toList) = true ∧ (A3 == B3) = false) ∨
            ((A0.toList == B0.toList) = true ∧ (A1 == B1) = true ∧ (A2.toList == B2.toList) = true ∧ (A3 == B3) = true ∧ (A4.toList == B4.toList) = false) := by
          cases (A0.toList == B0.toList) <;> cases (A1 == B1) <;> cases (A2.toList == B2.toList) <;> cases (A3 == B3) <;> cases (A4.toList == B4.toList) <;> simp
        rcases hcase with ⟨q0, q1, q2, q3, q4⟩ | hc
        · rw [q0, q1, q2, q3, q4] at HPE
          go_wp2
          go_quiet (fail)
          go_wp2
          go_roundw
          case rel => exact ⟨k + 1, by omega, by go_num, Lib.hid (HD.out.step _), Lib.hid (by rw [← HB.out, hd.out, HPE.out]; rfl)⟩
          case measure => simp [intOf]; omega
        · have HF := Lib.hid (show (P == Q) = false by
            rw [HPE.out]
            rcases hc with q0 | ⟨q0, q1⟩ | ⟨q0, q1, q2⟩ | ⟨q0, q1, q2, q3⟩ | ⟨q0, q1, q2, q3, q4⟩
            · rw [q0]; rfl
            · rw [q0, q1]; rfl
            · rw [q0, q1, q2]; rfl
            · rw [q0, q1, q2, q3]; rfl
            · rw [q0, q1, q2, q3, q4]; rfl)
          rcases hc with q0 | ⟨q0, q1⟩ | ⟨q0, q1, q2⟩ | ⟨q0, q1, q2, q3⟩ | ⟨q0, q1, q2, q3, q4⟩
          all_goals
            go_wp2
            go_quiet (fail)
            go_wp2
            go_ret
            exact ⟨ret_bool (by rw [HZ.out, ← HB.out, hd.out, HF.out]; rfl), hBr.trans (Drn.below ⟨_, rfl⟩)⟩
      · have HE := Lib.hid (show SD = true by rw [HZ.out, ← HB.out, List.drop_eq_nil_iff.2 (by omega), List.drop_eq_nil_iff.2 (by omega)]; rfl)
        go_wp2
        go_ret
        exact ⟨ret_bool HE.out.symm, hBr⟩
  all_goals
    have HZ := Lib.hid hz
    clear hz
    (try (rw [t3] at HT; clear t3))
    go_enter Tryd.func9, Tryd.ntmps9
    go_wp2_with (go_at_call 15; (try rw [← HW0.out]); refine (HT.out _ hB0).mono ?_; rintro e w1 ⟨rfl, hD1⟩; have hB1 := hB0.trans (hD1.below (B := w.heap.size)))
    go_ret
    first
      | exact ⟨ret_bool HZ.out.symm, hB1⟩
      | exact ⟨ret_bool HZ.out.symm, by rw [← HW0.out]; exact hB0⟩

end Go.Proofs.YtbljmjbialinkaaDoor
