/-
  The statement CompOwn: its walk.
-/
import Derived.Test.YtbljmjbialinkaaDoorLca
namespace Go.Proofs.YtbljmjbialinkaaDoor
set_option linter.unusedSimpArgs false
set_option linter.unusedVariables false
open Go.RowKit Go.Sort Go.Maps

def tupsOf (L : List Pb) : List Tup := L.flatMap fun p => p.doc.tups
theorem tupsOf_len : ∀ L : List Pb, (tupsOf L).length ≤ cntP L
  | [] => by simp [tupsOf]
  | p :: r => by
    have h := tupsOf_len r
    unfold tupsOf cntP at h ⊢
    rw [List.flatMap_cons, List.length_append, List.map_cons, List.sum_cons]; omega
theorem tupsOf_take (L : List Pb) (k : Nat) (hk : k < L.length) : tupsOf (L.take (k + 1)) = tupsOf (L.take k) ++ L[k].doc.tups := by
  unfold tupsOf
  rw [List.take_succ_eq_append_getElem hk, List.flatMap_append]; simp
theorem acc_len (L : List Pb) (k j : Nat) (hk : k < L.length) : (dedGo [] (tupsOf (L.take k) ++ L[k].doc.tups.take j)).length ≤ cntP L := by
  have h1 := dedGo_len (tupsOf (L.take k) ++ L[k].doc.tups.take j) ([] : List Tup)
  have h2 := tupsOf_len (L.take (k + 1))
  have h3 := cntP_le L (k + 1)
  rw [tupsOf_take L k hk, List.length_append] at h2
  rw [List.length_append, List.length_take] at h1
  simp at h1
  omega
theorem own_belowR {w w' : World} {base size n : Nat} {e : TypeId} {v : Value} {xs : List Value} (h : w.ownsRow base e size v n xs) (hB : Below w.heap.size w w') : w'.ownsRow base e size v n xs := by
  refine ⟨h.1, ?_⟩
  rcases h.2 with hn | ⟨g, cap, cur, rfl, hb, hgg, rest⟩
  · exact .inl hn
  · refine .inr ⟨g, cap, cur, rfl, hb, ?_, rest⟩
    have hlt := (Array.getElem?_eq_some_iff.1 hgg).1
    rw [hB.block g (by omega)]; exact hgg
/-- in which cell two tuples are first apart -/
def FirstOff (A0 B0 : ByteArray) (A1 B1 : Bool) (A2 B2 : ByteArray) (A3 B3 : Int) (A4 B4 : ByteArray) : Prop :=
  ((A0.toList == B0.toList) = false) ∨ ((A0.toList == B0.toList) = true ∧ (A1 == B1) = false) ∨
  ((A0.toList == B0.toList) = true ∧ (A1 == B1) = true ∧ (A2.toList == B2.toList) = false) ∨ ((A0.toList == B0.toList) = true ∧ (A1 == B1) = true ∧ (A2.toList == B2.toList) = true ∧ (A3 == B3) = false) ∨
  ((A0.toList == B0.toList) = true ∧ (A1 == B1) = true ∧ (A2.toList == B2.toList) = true ∧ (A3 == B3) = true ∧ (A4.toList == B4.toList) = false)
theorem tup_cmp (P Q : Tup) : (P = Q ∧ ((bs P.id).toList == (bs Q.id).toList) = true ∧ (P.opn == Q.opn) = true ∧ ((bs P.con).toList == (bs Q.con).toList) = true ∧ (P.prio == Q.prio) = true ∧ ((bs P.note).toList == (bs Q.note).toList) = true) ∨
    (P ≠ Q ∧ FirstOff (bs P.id) (bs Q.id) P.opn Q.opn (bs P.con) (bs Q.con) P.prio Q.prio (bs P.note) (bs Q.note)) := by
  have h := tup_eq P Q
  by_cases e : P = Q
  · subst e
    exact .inl ⟨rfl, by simp, by simp, by simp, by simp, by simp⟩
  · refine .inr ⟨e, ?_⟩
    have hf : (P == Q) = false := beq_eq_false_iff_ne.2 e
    rw [hf] at h
    unfold FirstOff
    revert h
    cases ((bs P.id).toList == (bs Q.id).toList) <;> cases (P.opn == Q.opn) <;> cases ((bs P.con).toList == (bs Q.con).toList) <;> cases (P.prio == Q.prio) <;> cases ((bs P.note).toList == (bs Q.note).toList) <;> simp
theorem ids_apart (L : List Tup) (h : (L.map Tup.id).Pairwise (· ≠ ·)) (i k : Nat) (hi : i < (L.map Tup.id).length) (hk : k < i) : ((L.map Tup.id)[i] == ((L.map Tup.id)[k]'(by omega))) = false := by
  rw [beq_eq_false_iff_ne]
  exact fun e => (List.pairwise_iff_getElem.1 h k i (by omega) hi hk) e.symm

set_option maxRecDepth 100000 in
set_option maxHeartbeats 51200000 in
theorem compOwn_walk (a : ByteArray) (ha : a.size ≤ 1048576) (v : Value) (L : List Pb) (hb : ∀ q ∈ L, PubSz 1048576 q) (hl : L.length ≤ 1048576) (w : World) (hm : Ml w) (hv : RPubs w v L) :
    Calls Tryd.prog 6 #[.string a, v] w fun e w' => e = .returned (.bool true) ∧ Below w.heap.size w w' := by
  have HM := Lib.hid hm
  have hcb : cntP L ≤ 4611686018427387904 := by
    have h1 := cntP_bd 1048576 L hb
    have h2 : L.length * (2 * 1048576 + 1) ≤ 1048576 * (2 * 1048576 + 1) := Nat.mul_le_mul_right _ hl
    omega
  have HSM := Lib.hid (small17_c v L w hv hcb)
  have HAW := Lib.hid (fun wx hx => awake17_c wx hx)
  have HV := Lib.hid hv
  have HB := Lib.hid hb
  obtain ⟨po, pc, rfl, hpm, hcl⟩ := hv.form
  have CL := Lib.hid hcl
  unfold maxLen at hpm
  clear hm hv hb hcb hcl
  cases hsm : smallP L with
  | false =>
    rw [hsm] at HSM
    clear hsm
    go_enter Tryd.func6, Tryd.ntmps6
    go_wp2_with (first | (go_at_call 10; refine HSM.out.mono ?_; rintro e w1 ⟨rfl, hC1⟩; have hm1 := HM.out.below hC1) | (go_at_call 8; refine (HAW.out _ hm1).mono ?_; rintro e w2 ⟨rfl, hC2⟩))
    go_ret
    exact ⟨rfl, hC1.trans (hC2.mono hC1.size)⟩
  | true =>
    have hl4 := small_len L hsm
    have hc4 : cntP L ≤ 400 := of_decide_eq_true hsm
    rw [hsm] at HSM
    clear hsm hl
    have HC := Lib.hid (fun wx hx vv hL => compose_c (us a) vv L (by rw [length_us]; exact ha) (fun q hq => (HB.out q hq).1) (by omega) wx hx hL)
    have hsv : sv (us a) = .string a := by unfold sv; rw [bs_us]
    rw [hsv] at HC
    have HOW := Lib.hid (fun h => compose_own candP okDoc candP_inj (us a) L h (dedGo [] (tupsOf L)) rfl)
    obtain ⟨D, hD⟩ : ∃ A, A = composeS candP okDoc (us a) L := ⟨_, rfl⟩
    rw [← hD] at HC HOW
    clear hD hsv
    go_enter Tryd.func6, Tryd.ntmps6
    go_wp2_with (first | (go_at_call 10; refine HSM.out.mono ?_; rintro e w1 ⟨rfl, hC1⟩; have hm1 := HM.out.below hC1; have hv1 := HV.out.below hC1 (Nat.le_refl _)) | (go_at_call 7; refine (HC.out _ hm1 _ hv1).mono ?_; rintro e w2 ⟨vd, rfl, hd, hC2⟩; obtain ⟨u1, u2, rfl, k1, k2⟩ := hd; have HK1 := Lib.hid k1; obtain ⟨co, cc, rfl, hcm, hcf⟩ := k1.form; obtain ⟨eo, ec, rfl, hec⟩ := k2.cap; clear k1 k2 hcf; have hB2 := hC1.trans (hC2.mono hC1.size)) | (with_reducible refine holdStore 25 rfl ?_))
    unfold Hold
    refine wpList_storeNew (vs := #[sv D.1.ent, .slice co D.1.tups.length cc, .slice eo D.1.notes.length ec]) rfl rfl rfl rfl (by kernel_rfl) (by rfl) (by rfl) ?_
    have hN := (Below.refl w2.heap.size w2).alloc (Nat.le_refl _) (.cells #[sv D.1.ent, .slice co D.1.tups.length cc, .slice eo D.1.notes.length ec] 25)
    have bD := Blk.new w2 25 #[sv D.1.ent, .slice co D.1.tups.length cc, .slice eo D.1.notes.length ec]
    have hB3 := hB2.trans (hN.mono hB2.size)
    have j1 := HK1.out.below hN (Nat.le_refl _)
    obtain ⟨gD, hgD⟩ : ∃ g, g = w2.heap.size := ⟨_, rfl⟩
    obtain ⟨w3, hw3⟩ : ∃ z, z = w2.alloc (.cells #[sv D.1.ent, .slice co D.1.tups.length cc, .slice eo D.1.notes.length ec] 25) := ⟨_, rfl⟩
    rw [← hw3] at hN bD hB3 j1
    rw [← hw3]
    rw [← hgD] at bD
    simp only [← hgD]
    have HJ := Lib.hid j1
    have HB3 := Lib.hid hB3
    have HBD := Lib.hid bD
    have hm3 := HM.out.below hB3
    clear hw3 hgD hN bD hB3 j1 hC1 hm1 hv1 hC2 hB2 HK1
    by_cases he : D.2 = 0
    case neg =>
      have t0 : (D.2 != 0) = true := by simpa using he
      clear he
      go_wp2_with (go_at_call 8; refine (HAW.out _ hm3).mono ?_; rintro e w6 ⟨rfl, hC6⟩)
      go_ret
      exact ⟨rfl, HB3.out.trans (hC6.mono HB3.out.size)⟩
    case pos =>
      have HO := Lib.hid (HOW.out he)
      have t0 : (D.2 != 0) = false := by rw [he]; rfl
      clear he hm3 HOW
      go_wp2
      go_loopw [7, 8] (fun x y wx => ∃ (i : Nat) (ACC : List Tup) (va : Value), i ≤ L.length ∧ x = va ∧ y = .int .i64 i ∧ Hid (ACC = dedGo [] (tupsOf (L.take i))) ∧ Hid (Below w3.heap.size w3 wx) ∧ Hid (Tups wx w3.heap.size va ACC)) (fun _ y _ => L.length - (intOf y).toNat)
      case atStart => exact ⟨0, [], _, Nat.zero_le _, rfl, rfl, Lib.hid rfl, Lib.hid (Below.refl _ _), Lib.hid (World.ownsRow_nil _ _ _ _)⟩
      case round =>
        obtain ⟨i, ACC, va, hi, rfl, rfl, HA, HBx, HT⟩ := hrel
        by_cases hlt : i < L.length
        · obtain ⟨b, off, rfl, hb1, hc1⟩ := CL.out (by omega)
          obtain ⟨q, hq⟩ : ∃ q, q = L[i] := ⟨_, rfl⟩
          have hpw := hc1 i hlt
          have HQL := Lib.hid (fun j => acc_len L i j hlt)
          have HTK := Lib.hid (tupsOf_take L i hlt)
          rw [← hq] at hpw HQL HTK
          obtain ⟨_, _, _, _, _, u1, u2, a5, _, k1, _⟩ := hpw
          obtain ⟨ao, ac, rfl, hqm, hqf⟩ := k1.form
          have HQF := Lib.hid hqf
          unfold maxLen at hqm
          have HA5 := Lib.hid (fun (wx : World) (h : Below w3.heap.size w3 wx) => (show wx.cell? ⟨b, off + i * 7 + 5, none⟩ = some (.slice ao q.doc.tups.length ac) from by rw [(HB3.out.trans (h.mono HB3.out.size)).cell (p := ⟨b, off + i * 7 + 5, none⟩) hb1]; exact a5))
          clear hc1 hb1 hq a5 k1 hqf
          have i0 : (0 : Int) ≤ (i : Int) := by omega
          have i1 : (i : Int) < (L.length : Int) := by omega
          go_wp2
          focus
            go_loopw [7, 9] (fun x y wx => ∃ (k : Nat) (ACC : List Tup) (va : Value), k ≤ q.doc.tups.length ∧ x = va ∧ y = .int .i64 k ∧ Hid (ACC = dedGo [] (tupsOf (L.take i) ++ q.doc.tups.take k)) ∧ Hid (Below w3.heap.size w3 wx) ∧ Hid (Tups wx w3.heap.size va ACC)) (fun _ y _ => q.doc.tups.length - (intOf y).toNat)
            case atStart => exact ⟨0, ACC, _, Nat.zero_le _, rfl, rfl, Lib.hid (by rw [HA.out, List.take_zero, List.append_nil]), HBx, HT⟩
            case round =>
              obtain ⟨k, ACC, va, hk, rfl, rfl, HA2, HBk, HT2⟩ := hrel
              have c5 := HA5.out _ HBk.out
              by_cases hlk : k < q.doc.tups.length
              · obtain ⟨b1, o1, rfl, hb1, hcc1⟩ := HQF.out (by omega)
                obtain ⟨t, ht⟩ : ∃ t, t = q.doc.tups[k] := ⟨_, rfl⟩
                have hcell := hcc1 k hlk
                rw [← ht] at hcell
                obtain ⟨y0, y1, y2, y3, y4⟩ := hcell
                have HY := Lib.hid (fun (wx : World) (h : Below w3.heap.size w3 wx) => (show wx.cell? ⟨b1, o1 + k * 5, none⟩ = some (sv t.id) ∧ wx.cell? ⟨b1, o1 + k * 5 + 1, none⟩ = some (.bool t.opn) ∧ wx.cell? ⟨b1, o1 + k * 5 + 2, none⟩ = some (sv t.con) ∧ wx.cell? ⟨b1, o1 + k * 5 + 3, none⟩ = some (.int .i64 t.prio) ∧ wx.cell? ⟨b1, o1 + k * 5 + 4, none⟩ = some (sv t.note) from by
                  have ux : ∀ o, wx.cell? ⟨b1, o, none⟩ = w.cell? ⟨b1, o, none⟩ := fun o => (HB3.out.trans (h.mono HB3.out.size)).cell (p := ⟨b1, o, none⟩) hb1
                  rw [ux, ux, ux, ux, ux]
                  exact ⟨y0, y1, y2, y3, y4⟩))
                have hal : ACC.length ≤ 400 := by rw [HA2.out]; exact Nat.le_trans (HQL.out k) hc4
                have HSN := Lib.hid (show (t ∈ ACC → dedGo [] (tupsOf (L.take i) ++ q.doc.tups.take (k + 1)) = ACC) ∧ (¬ t ∈ ACC → dedGo [] (tupsOf (L.take i) ++ q.doc.tups.take (k + 1)) = ACC ++ [t]) from ⟨fun h => by rw [List.take_succ_eq_append_getElem hlk, ← List.append_assoc, dedGo_snoc, ← HA2.out, ← ht, if_pos h], fun h => by rw [List.take_succ_eq_append_getElem hlk, ← List.append_assoc, dedGo_snoc, ← HA2.out, ← ht, if_neg h]⟩)
                obtain ⟨no, nc, rfl, hnm, hnf⟩ := RTups.form (RRow.of_own HT2.out)
                have HNF := Lib.hid hnf
                have k0 : (0 : Int) ≤ (k : Int) := by omega
                have k1 : (k : Int) < (q.doc.tups.length : Int) := by omega
                clear hcc1 hb1 ht y0 y1 y2 y3 y4 hnf
                go_wp2
                clear c5
                focus
                  go_loopw [10, 11] (fun x y wx => ∃ (j : Nat) (f : Bool), j ≤ ACC.length ∧ x = .bool f ∧ y = .int .i64 j ∧ Hid (f = decide (t ∈ ACC.take j)) ∧ Hid (Drn wr wx)) (fun _ y _ => ACC.length - (intOf y).toNat)
                  case atStart => exact ⟨0, false, Nat.zero_le _, rfl, rfl, Lib.hid (by simp), Lib.hid (Drn.refl _)⟩
                  case round =>
                    obtain ⟨j, f, hj, rfl, rfl, HF, HD⟩ := hrel
                    have HBj := Lib.hid (HBk.out.trans (HD.out.below (B := w3.heap.size)))
                    have c5 := HA5.out _ HBj.out
                    obtain ⟨y0, y1, y2, y3, y4⟩ := HY.out _ HBj.out
                    by_cases hlj : j < ACC.length
                    · obtain ⟨b2, o2, rfl, hb2, hcc2⟩ := HNF.out (by omega)
                      have j0 : (0 : Int) ≤ (j : Int) := by omega
                      have j1 : (j : Int) < (ACC.length : Int) := by omega
                      have ux : ∀ o, wr.cell? ⟨b2, o, none⟩ = _ := fun o => (HD.out.below).cell (p := ⟨b2, o, none⟩) hb2
                      have hTK := (show decide (t ∈ ACC.take (j + 1)) = (decide (t ∈ ACC.take j) || decide (ACC[j] = t)) by
                        rw [List.take_succ_eq_append_getElem hlj, Bool.eq_iff_iff]
                        simp only [List.mem_append, List.mem_singleton, decide_eq_true_eq, Bool.or_eq_true]
                        exact or_congr Iff.rfl ⟨fun h => h.symm, fun h => h.symm⟩)
                      obtain ⟨z0, z1, z2, z3, z4⟩ := hcc2 j hlj
                      rw [← ux] at z0 z1 z2 z3 z4
                      obtain ⟨Q, hQ⟩ : ∃ Q, Q = ACC[j] := ⟨_, rfl⟩
                      simp only [← hQ] at z0 z1 z2 z3 z4 hTK
                      have HTK2 := Lib.hid hTK
                      clear hcc2 hb2 ux hQ hTK
                      cases f with
                      | true =>
                        have HF2 := Lib.hid (show true = decide (t ∈ ACC.take (j + 1)) by rw [HTK2.out, ← HF.out]; rfl)
                        go_wp2
                        go_quiet (fail)
                        go_wp2
                        go_roundw
                        case rel => exact ⟨j + 1, true, by omega, rfl, by go_num, HF2, Lib.hid (HD.out.step _)⟩
                        case measure => simp [intOf]; omega
                      | false =>
                        unfold sv at z0 z2 z4 y0 y2 y4
                        rcases tup_cmp Q t with ⟨hq, e0, e1, e2, e3, e4⟩ | ⟨hq, hoff⟩
                        · have HF2 := Lib.hid (show true = decide (t ∈ ACC.take (j + 1)) by rw [HTK2.out, decide_eq_true hq]; simp)
                          clear hq
                          obtain ⟨A0, hA0⟩ : ∃ A, A = bs Q.id := ⟨_, rfl⟩
                          obtain ⟨A1, hA1⟩ : ∃ A, A = Q.opn := ⟨_, rfl⟩
                          obtain ⟨A2, hA2⟩ : ∃ A, A = bs Q.con := ⟨_, rfl⟩
                          obtain ⟨A3, hA3⟩ : ∃ A, A = Q.prio := ⟨_, rfl⟩
                          obtain ⟨A4, hA4⟩ : ∃ A, A = bs Q.note := ⟨_, rfl⟩
                          obtain ⟨B0, hB0⟩ : ∃ A, A = bs t.id := ⟨_, rfl⟩
                          obtain ⟨B1, hB1⟩ : ∃ A, A = t.opn := ⟨_, rfl⟩
                          obtain ⟨B2, hB2⟩ : ∃ A, A = bs t.con := ⟨_, rfl⟩
                          obtain ⟨B3, hB3⟩ : ∃ A, A = t.prio := ⟨_, rfl⟩
                          obtain ⟨B4, hB4⟩ : ∃ A, A = bs t.note := ⟨_, rfl⟩
                          (try rw [← hA0, ← hB0] at e0)
                          (try rw [← hA1, ← hB1] at e1)
                          (try rw [← hA2, ← hB2] at e2)
                          (try rw [← hA3, ← hB3] at e3)
                          (try rw [← hA4, ← hB4] at e4)
                          rw [← hA0] at z0
                          rw [← hA1] at z1
                          rw [← hA2] at z2
                          rw [← hA3] at z3
                          rw [← hA4] at z4
                          rw [← hB0] at y0
                          rw [← hB1] at y1
                          rw [← hB2] at y2
                          rw [← hB3] at y3
                          rw [← hB4] at y4
                          clear hA0 hA1 hA2 hA3 hA4 hB0 hB1 hB2 hB3 hB4
                          go_wp2
                          go_quiet (fail)
                          go_wp2
                          go_roundw
                          case rel => exact ⟨j + 1, true, by omega, rfl, by go_num, HF2, Lib.hid (HD.out.step _)⟩
                          case measure => simp [intOf]; omega
                        · have HF2 := Lib.hid (show false = decide (t ∈ ACC.take (j + 1)) by rw [HTK2.out, ← HF.out, decide_eq_false hq]; rfl)
                          clear hq
                          unfold FirstOff at hoff
                          rcases hoff with e0 | ⟨e0, e1⟩ | ⟨e0, e1, e2⟩ | ⟨e0, e1, e2, e3⟩ | ⟨e0, e1, e2, e3, e4⟩
                          all_goals
                            obtain ⟨A0, hA0⟩ : ∃ A, A = bs Q.id := ⟨_, rfl⟩
                            obtain ⟨A1, hA1⟩ : ∃ A, A = Q.opn := ⟨_, rfl⟩
                            obtain ⟨A2, hA2⟩ : ∃ A, A = bs Q.con := ⟨_, rfl⟩
                            obtain ⟨A3, hA3⟩ : ∃ A, A = Q.prio := ⟨_, rfl⟩
                            obtain ⟨A4, hA4⟩ : ∃ A, A = bs Q.note := ⟨_, rfl⟩
                            obtain ⟨B0, hB0⟩ : ∃ A, A = bs t.id := ⟨_, rfl⟩
                            obtain ⟨B1, hB1⟩ : ∃ A, A = t.opn := ⟨_, rfl⟩
                            obtain ⟨B2, hB2⟩ : ∃ A, A = bs t.con := ⟨_, rfl⟩
                            obtain ⟨B3, hB3⟩ : ∃ A, A = t.prio := ⟨_, rfl⟩
                            obtain ⟨B4, hB4⟩ : ∃ A, A = bs t.note := ⟨_, rfl⟩
                            (try rw [← hA0, ← hB0] at e0)
                            (try rw [← hA1, ← hB1] at e1)
                            (try rw [← hA2, ← hB2] at e2)
                            (try rw [← hA3, ← hB3] at e3)
                            (try rw [← hA4, ← hB4] at e4)
                            rw [← hA0] at z0
                            rw [← hA1] at z1
                            rw [← hA2] at z2
                            rw [← hA3] at z3
                            rw [← hA4] at z4
                            rw [← hB0] at y0
                            rw [← hB1] at y1
                            rw [← hB2] at y2
                            rw [← hB3] at y3
                            rw [← hB4] at y4
                            clear hA0 hA1 hA2 hA3 hA4 hB0 hB1 hB2 hB3 hB4
                            go_wp2
                            go_quiet (fail)
                            go_wp2
                            go_roundw
                            case rel => exact ⟨j + 1, false, by omega, rfl, by go_num, HF2, Lib.hid (HD.out.step _)⟩
                            case measure => simp [intOf]; omega
                    · have HFE := Lib.hid (show f = decide (t ∈ ACC) by rw [HF.out, List.take_of_length_le (by omega)])
                      have HTj := Lib.hid (show Tups wr w3.heap.size (.slice no ACC.length nc) ACC from own_belowR HT2.out (HD.out.below))
                      cases f with
                      | true =>
                        have HN2 := Lib.hid (show ACC = dedGo [] (tupsOf (L.take i) ++ q.doc.tups.take (k + 1)) from (HSN.out.1 (of_decide_eq_true HFE.out.symm)).symm)
                        go_wp2
                        go_roundw
                        case rel => exact ⟨k + 1, ACC, _, by omega, rfl, by go_num, HN2, HBj, HTj⟩
                        case measure => simp [intOf]; omega
                      | false =>
                        have HN2 := Lib.hid (show ACC ++ [t] = dedGo [] (tupsOf (L.take i) ++ q.doc.tups.take (k + 1)) from (HSN.out.2 (of_decide_eq_false HFE.out.symm)).symm)
                        unfold sv at y0 y2 y4
                        have HY2 := Lib.hid (show bs t.id = bs t.id ∧ bs t.con = bs t.con ∧ bs t.note = bs t.note from ⟨rfl, rfl, rfl⟩)
                        have HSZ := Lib.hid (show w3.heap.size ≤ wr.heap.size from HBj.out.size)
                        go_wp2_with (at_builtin; refine wpList_appM (v := .slice no ACC.length nc) (n := ACC.length) (m := 1) (news := #[.string (bs t.id), .bool t.opn, .string (bs t.con), .int .i64 t.prio, .string (bs t.note)]) rfl rfl Tryd.underlying22 infoT rfl (by decide) rfl rfl HTj.out (by decide) rfl (by intro u hu; simp at hu; rcases hu with rfl | rfl | rfl | rfl | rfl <;> rfl) (by decide) (by omega) HSZ.out ?_; intro v' w8 h2 h3 h4)
                        go_roundw
                        case rel =>
                          refine ⟨k + 1, ACC ++ [t], v', by omega, rfl, by go_num, HN2, Lib.hid ((HBj.out.alloc HSZ.out _).grown h3 (by rw [World.size_alloc]; have := HSZ.out; omega) (fun k hk => (World.ownsRow.lt HTj.out k hk).1)), Lib.hid ?_⟩
                          show w8.ownsRow w3.heap.size 39 5 v' (ACC ++ [t]).length ((ACC ++ [t]).flatMap rowT)
                          rw [List.length_append, List.flatMap_append]
                          exact h2
                        case measure => simp [intOf]; omega
              · have HA3 := Lib.hid (show ACC = dedGo [] (tupsOf (L.take (i + 1))) by rw [HA2.out, HTK.out, List.take_of_length_le (l := q.doc.tups) (by omega)])
                go_wp2
                go_roundw
                case rel => exact ⟨i + 1, ACC, _, by omega, rfl, by go_num, HA3, HBk, HT2⟩
                case measure => simp [intOf]; omega
        · have hAA : ACC = dedGo [] (tupsOf L) := by rw [HA.out, List.take_of_length_le (by omega)]
          obtain ⟨o1, o2, o3⟩ := HO.out
          rw [← hAA] at o1
          have ho2 : ∀ i (h : i < D.1.tups.length) (h2 : i < ACC.length), ACC[i].as D.1.tups[i].id = D.1.tups[i] := by
            subst hAA
            exact o2
          have hal : ACC.length ≤ 400 := by
            rw [hAA]
            have h1 := dedGo_len (tupsOf L) ([] : List Tup)
            have h2 := tupsOf_len L
            simp at h1
            omega
          obtain ⟨no, nc, rfl, hnm, hnf⟩ := RTups.form (RRow.of_own HT.out)
          obtain ⟨co', cc', ecc, _, hdf⟩ := HJ.out.form
          injection ecc with e1 e2 e3
          subst e1
          subst e3
          have HNF := Lib.hid hnf
          have HDF := Lib.hid hdf
          have HO2 := Lib.hid ho2
          have HO3 := Lib.hid o3
          have HRD := Lib.hid (fun (wx : World) (h : Below wr.heap.size wr wx) => (show wx.cell? ⟨gD, 1, none⟩ = some (.slice co D.1.tups.length cc) ∧ Below w3.heap.size w3 wx from by
            have hb := HBx.out.trans (h.mono HBx.out.size)
            exact ⟨boxedCell (Blk.call HBD.out hb) 1, hb⟩))
          have hmn : (ACC.length ≤ 16 ∧ D.1.tups.length = ACC.length) ∨ (16 ≤ ACC.length ∧ D.1.tups.length = 16) := by
            rcases Nat.le_total ACC.length 16 with h | h
            · exact .inl ⟨h, by rw [o1, Nat.min_eq_right h]⟩
            · exact .inr ⟨h, by rw [o1, Nat.min_eq_left h]⟩
          clear o1
          have hle : D.1.tups.length ≤ ACC.length := by omega
          have hd16 : D.1.tups.length ≤ 16 := by omega
          have hcs : (((D.1.tups.length : Int) != (ACC.length : Int)) = false) ∨ (((D.1.tups.length : Int) != (ACC.length : Int)) = true ∧ ¬ (ACC.length : Int) ≤ 16 ∧ ((D.1.tups.length : Int) != 16) = false) := by
            by_cases h16 : ACC.length ≤ 16
            · exact .inl (by rw [bne_eq_false_iff_eq]; omega)
            · exact .inr ⟨by rw [bne_iff_ne]; omega, by omega, by rw [bne_eq_false_iff_eq]; omega⟩
          have d1 := (HRD.out wr (Below.refl _ _)).1
          have hBw := HB3.out.trans (HBx.out.mono HB3.out.size)
          have HBW := Lib.hid hBw
          clear hAA hmn o2 o3 ho2 hnf hdf HA hBw
          rcases hcs with t1 | ⟨t1, t2, t3⟩
          all_goals
            go_wp2
            clear d1 hlt
            focus
              go_loopw [12, 13] (fun x y wx => ∃ (i : Nat) (vi : Value), i ≤ D.1.tups.length ∧ x = vi ∧ y = .int .i64 i ∧ Hid (Below wr.heap.size wr wx) ∧ Hid (Strs wx wr.heap.size 9 vi ((D.1.tups.map Tup.id).take i))) (fun _ y _ => D.1.tups.length - (intOf y).toNat)
              case atStart => exact ⟨0, _, Nat.zero_le _, rfl, rfl, Lib.hid (Below.refl _ _), Lib.hid (World.ownsRow_nil _ _ _ _)⟩
              case round =>
                obtain ⟨i, vi, hi, rfl, rfl, HBi, HS⟩ := hrel
                obtain ⟨d1, hb3⟩ := HRD.out _ HBi.out
                have HB3i := Lib.hid hb3
                by_cases hlt : i < D.1.tups.length
                · have hia : i < ACC.length := by omega
                  obtain ⟨b1, o1, rfl, hb1, hcc1⟩ := HNF.out (by omega)
                  obtain ⟨b2, o2, rfl, hb2, hcc2⟩ := HDF.out (by omega)
                  have hxy := HO2.out i hlt hia
                  have HIT := Lib.hid (show (D.1.tups.map Tup.id).take (i + 1) = (D.1.tups.map Tup.id).take i ++ [D.1.tups[i].id] by rw [List.take_succ_eq_append_getElem (by rw [List.length_map]; exact hlt), List.getElem_map])
                  obtain ⟨x0, x1, x2, x3, x4⟩ := hcc1 i hia
                  obtain ⟨y0, y1, y2, y3, y4⟩ := hcc2 i hlt
                  obtain ⟨X, hX⟩ : ∃ X, X = ACC[i] := ⟨_, rfl⟩
                  obtain ⟨Y, hY⟩ : ∃ Y, Y = D.1.tups[i] := ⟨_, rfl⟩
                  simp only [← hX] at x0 x1 x2 x3 x4 hxy
                  simp only [← hY] at y0 y1 y2 y3 y4 hxy
                  rw [← hY] at HIT
                  have q1 : X.opn = Y.opn := by rw [← hxy]; rfl
                  have q2 : X.con = Y.con := by rw [← hxy]; rfl
                  have q3 : X.prio = Y.prio := by rw [← hxy]; rfl
                  have q4 : X.note = Y.note := by rw [← hxy]; rfl
                  rw [q1] at x1
                  rw [q2] at x2
                  rw [q3] at x3
                  rw [q4] at x4
                  unfold sv at x0 x2 x4 y0 y2 y4
                  obtain ⟨J0, hJ0⟩ : ∃ A, A = bs X.id := ⟨_, rfl⟩
                  obtain ⟨J, hJ⟩ : ∃ A, A = bs Y.id := ⟨_, rfl⟩
                  obtain ⟨C, hC⟩ : ∃ A, A = bs Y.con := ⟨_, rfl⟩
                  obtain ⟨N, hN⟩ : ∃ A, A = bs Y.note := ⟨_, rfl⟩
                  obtain ⟨O, hO⟩ : ∃ A, A = Y.opn := ⟨_, rfl⟩
                  obtain ⟨R, hR⟩ : ∃ A, A = Y.prio := ⟨_, rfl⟩
                  rw [← hJ0] at x0
                  rw [← hO] at x1 y1
                  rw [← hC] at x2 y2
                  rw [← hR] at x3 y3
                  rw [← hN] at x4 y4
                  rw [← hJ] at y0
                  have HIJ := Lib.hid hJ
                  have hbl : b1 < wr.heap.size := Nat.lt_of_lt_of_le hb1 HBi.out.size
                  have hbl2 : b2 < wr.heap.size := Nat.lt_of_lt_of_le hb2 hb3.size
                  have ux : ∀ (wx : World), Below wr.heap.size wr wx → wx.cell? ⟨b1, o1 + i * 5, none⟩ = some (.string J0) ∧ wx.cell? ⟨b1, o1 + i * 5 + 1, none⟩ = some (.bool O) ∧ wx.cell? ⟨b1, o1 + i * 5 + 2, none⟩ = some (.string C) ∧ wx.cell? ⟨b1, o1 + i * 5 + 3, none⟩ = some (.int .i64 R) ∧ wx.cell? ⟨b1, o1 + i * 5 + 4, none⟩ = some (.string N) := fun wx h => by
                    have u : ∀ o, wx.cell? ⟨b1, o, none⟩ = _ := fun o => (HBi.out.trans (h.mono HBi.out.size)).cell (p := ⟨b1, o, none⟩) hb1
                    rw [u, u, u, u, u]
                    exact ⟨x0, x1, x2, x3, x4⟩
                  have uy : ∀ (wx : World), Below wr.heap.size wr wx → wx.cell? ⟨b2, o2 + i * 5, none⟩ = some (.string J) ∧ wx.cell? ⟨b2, o2 + i * 5 + 1, none⟩ = some (.bool O) ∧ wx.cell? ⟨b2, o2 + i * 5 + 2, none⟩ = some (.string C) ∧ wx.cell? ⟨b2, o2 + i * 5 + 3, none⟩ = some (.int .i64 R) ∧ wx.cell? ⟨b2, o2 + i * 5 + 4, none⟩ = some (.string N) := fun wx h => by
                    have u : ∀ o, wx.cell? ⟨b2, o, none⟩ = _ := fun o => (HB3i.out.trans (h.mono HB3i.out.size)).cell (p := ⟨b2, o, none⟩) hb2
                    rw [u, u, u, u, u]
                    exact ⟨y0, y1, y2, y3, y4⟩
                  have UY := Lib.hid uy
                  clear x0 x1 x2 x3 x4 y0 y1 y2 y3 y4 uy hcc1 hcc2 hxy q1 q2 q3 q4 hX hY hJ0 hJ hC hN hO hR
                  obtain ⟨x0, x1, x2, x3, x4⟩ := ux wr (Below.refl _ _)
                  have i0 : (0 : Int) ≤ (i : Int) := by omega
                  have i1 : (i : Int) < (ACC.length : Int) := by omega
                  have i2 : (i : Int) < (D.1.tups.length : Int) := by omega
                  clear ux hb1 hb2 hbl hbl2 hb3
                  go_wp2_with (with_reducible refine holdStore 39 rfl ?_)
                  unfold Hold
                  refine wpList_storeNew (vs := #[.string J0, .bool O, .string C, .int .i64 R, .string N]) rfl rfl rfl rfl (by kernel_rfl) (by rfl) (by rfl) ?_
                  have hBt := (Below.refl wr.heap.size wr).alloc (Nat.le_refl _) (.cells #[.string J0, .bool O, .string C, .int .i64 R, .string N] 39)
                  have bt := Blk.new wr 39 #[.string J0, .bool O, .string C, .int .i64 R, .string N]
                  obtain ⟨gt, hgt⟩ : ∃ g, g = wr.heap.size := ⟨_, rfl⟩
                  obtain ⟨wt, hwt⟩ : ∃ z, z = wr.alloc (.cells #[.string J0, .bool O, .string C, .int .i64 R, .string N] 39) := ⟨_, rfl⟩
                  rw [← hwt] at hBt bt
                  rw [← hwt]
                  rw [← hgt] at bt
                  simp only [← hgt]
                  clear x0 x1 x2 x3 x4 d1
                  obtain ⟨d1, _⟩ := HRD.out _ (HBi.out.trans (hBt.mono HBi.out.size))
                  obtain ⟨y0, y1, y2, y3, y4⟩ := UY.out _ hBt
                  have f0 := boxedFree bt 0
                  have c0 := boxedCell bt 0
                  have HGT := Lib.hid hgt
                  clear hwt hgt
                  go_upto_region 28 with fail
                  have b6 : Blk (wt.setCell ⟨gt, 0, none⟩ (.string J)) gt 39 #[.string J, .bool O, .string C, .int .i64 R, .string N] := Blk.set_ bt 0 (.string J)
                  have hB6 : Below wr.heap.size wr (wt.setCell ⟨gt, 0, none⟩ (.string J)) := hBt.setCell (p := ⟨gt, 0, none⟩) (Nat.le_of_eq HGT.out.symm) _
                  obtain ⟨w6, hw6⟩ : ∃ z, z = wt.setCell ⟨gt, 0, none⟩ (.string J) := ⟨_, rfl⟩
                  rw [← hw6] at b6 hB6 ⊢
                  clear hw6 d1 y0 y1 y2 y3 y4 f0 c0 bt hBt
                  obtain ⟨d1, _⟩ := HRD.out _ (HBi.out.trans (hB6.mono HBi.out.size))
                  obtain ⟨y0, y1, y2, y3, y4⟩ := UY.out _ hB6
                  obtain ⟨r0, r1, r2, r3, r4⟩ := blk_f5T b6
                  go_quiet (fail)
                  have hB7 := hB6.trans (Drn.below (B := wr.heap.size) (a := w6) (b := w6.drewN nq) ⟨_, rfl⟩)
                  have b7 := Blk.call b6 (Drn.below (B := w6.heap.size) (a := w6) (b := w6.drewN nq) ⟨_, rfl⟩)
                  obtain ⟨w7, hw7⟩ : ∃ z, z = w6.drewN nq := ⟨_, rfl⟩
                  rw [← hw7] at hB7 b7 ⊢
                  clear hw7 d1 y0 y1 y2 y3 y4 r0 r1 r2 r3 r4 b6 hB6
                  have r0 : w7.cell? ⟨gt, 0, none⟩ = some (.string J) := boxedCell b7 0
                  have HS7 := Lib.hid (own_belowR HS.out hB7)
                  have HB7 := Lib.hid (HBi.out.trans (hB7.mono HBi.out.size))
                  have HSZ := Lib.hid (show _ ≤ w7.heap.size from HB7.out.size)
                  obtain ⟨io, ic, rfl⟩ := row_formM HS.out
                  have hil : ((D.1.tups.map Tup.id).take i).length ≤ 16 := by rw [List.length_take]; omega
                  clear b7 hB7
                  go_wp2_with (at_builtin; refine wpList_appM (v := .slice io ((D.1.tups.map Tup.id).take i).length ic) (n := ((D.1.tups.map Tup.id).take i).length) (m := 1) (news := #[.string J]) rfl rfl Tryd.underlying23 infoS0 rfl (by decide) rfl rfl HS7.out (by decide) rfl (by intro u hu; simp at hu; rw [hu]; rfl) (by decide) (by omega) HSZ.out ?_; intro v' w8 h2 h3 h4)
                  go_roundw
                  case rel =>
                    refine ⟨i + 1, v', by omega, rfl, by go_num, Lib.hid ((HB7.out.alloc HSZ.out _).grown h3 (by rw [World.size_alloc]; have := HSZ.out; omega) (fun k hk => (World.ownsRow.lt HS7.out k hk).1)), Lib.hid ?_⟩
                    rw [HIT.out]
                    show w8.ownsRow _ 9 1 v' ((D.1.tups.map Tup.id).take i ++ [Y.id]).length (((D.1.tups.map Tup.id).take i ++ [Y.id]).map sv)
                    rw [List.length_append, List.map_append]
                    have e2 : [Y.id].map sv = (#[.string J] : Array Value).toList := by rw [HIJ.out]; rfl
                    rw [e2]
                    exact h2
                  case measure => simp [intOf]; omega
                · have hti : (D.1.tups.map Tup.id).take i = D.1.tups.map Tup.id := List.take_of_length_le (by rw [List.length_map]; omega)
                  have hS := HS.out
                  rw [hti] at hS
                  obtain ⟨io, ic, rfl, him, hif⟩ := RStrs.formT (Strs.read hS)
                  obtain ⟨I, hIl, hI16, hIF, hAP⟩ : ∃ I : List (List UInt8), (D.1.tups.map Tup.id).length = I.length ∧ I.length ≤ 16 ∧ (0 < I.length → ∃ b off, io = some ⟨b, off, none⟩ ∧ b < wr.heap.size ∧ ∀ j (hj : j < I.length), wr.cell? ⟨b, off + j, none⟩ = some (sv I[j])) ∧ (∀ i k (hi : i < I.length) (hk : k < i), (I[i] == (I[k]'(by omega))) = false) :=
                    ⟨D.1.tups.map Tup.id, rfl, by rw [List.length_map]; exact hd16, hif, fun i k hi hk => ids_apart D.1.tups HO3.out i k hi hk⟩
                  simp only [hIl]
                  have HIF := Lib.hid hIF
                  have HAP := Lib.hid hAP
                  have HBWi := Lib.hid (HBW.out.trans (HBi.out.mono HBW.out.size))
                  clear hS hti hif hIF hAP hIl him hb3
                  go_wp2
                  clear d1
                  focus
                    go_loopw [15] (fun x wx => ∃ j : Nat, j ≤ I.length ∧ x = .int .i64 j ∧ Hid (Drn wr wx)) (fun x _ => I.length - (intOf x).toNat)
                    case atStart => exact ⟨0, Nat.zero_le _, rfl, Lib.hid (Drn.refl _)⟩
                    case round =>
                      obtain ⟨j, hj, rfl, HD⟩ := hrel
                      by_cases hlj : j < I.length
                      · go_wp2
                        focus
                          go_loopw [16] (fun x wx => ∃ k : Nat, k ≤ j ∧ x = .int .i64 k ∧ Hid (Drn wr wx)) (fun x _ => j - (intOf x).toNat)
                          case atStart => exact ⟨0, Nat.zero_le _, rfl, Lib.hid (Drn.refl _)⟩
                          case round =>
                            obtain ⟨k, hk, rfl, HD2⟩ := hrel
                            by_cases hlk : k < j
                            · obtain ⟨b4, o4, rfl, hb4, hcc4⟩ := HIF.out (by omega)
                              have u : ∀ o, wr.cell? ⟨b4, o, none⟩ = _ := fun o => ((HD.out.below).trans (HD2.out.below)).cell (p := ⟨b4, o, none⟩) hb4
                              have z0 := hcc4 j hlj
                              have z1 := hcc4 k (by omega)
                              rw [← u] at z0 z1
                              have hne := HAP.out j k hlj hlk
                              rw [← str_eq] at hne
                              unfold sv at z0 z1
                              have j0 : (0 : Int) ≤ (j : Int) := by omega
                              have j1 : (j : Int) < (I.length : Int) := by omega
                              have k0 : (0 : Int) ≤ (k : Int) := by omega
                              have k1 : (k : Int) < (I.length : Int) := by omega
                              obtain ⟨S, hS⟩ : ∃ A, A = bs I[j] := ⟨_, rfl⟩
                              obtain ⟨T, hT⟩ : ∃ A, A = bs I[k] := ⟨_, rfl⟩
                              rw [← hS] at z0 hne
                              rw [← hT] at z1 hne
                              clear hS hT hcc4 u hb4
                              go_wp2
                              go_quiet (fail)
                              go_wp2
                              go_roundw
                              case rel => exact ⟨k + 1, by omega, by go_num, Lib.hid (HD2.out.step _)⟩
                              case measure => simp [intOf]; omega
                            · have HDD := Lib.hid (show Drn _ wr from HD.out.trans HD2.out)
                              go_wp2
                              go_roundw
                              case rel => exact ⟨j + 1, by omega, by go_num, HDD⟩
                              case measure => simp [intOf]; omega
                      · have hB9 := HBWi.out.trans (HD.out.below (B := w.heap.size))
                        have hm9 := HM.out.below hB9
                        go_wp2_with (go_at_call 8; refine (HAW.out _ hm9).mono ?_; rintro e w12 ⟨rfl, hC12⟩)
                        go_ret
                        exact ⟨rfl, hB9.trans (hC12.mono hB9.size)⟩

end Go.Proofs.YtbljmjbialinkaaDoor
