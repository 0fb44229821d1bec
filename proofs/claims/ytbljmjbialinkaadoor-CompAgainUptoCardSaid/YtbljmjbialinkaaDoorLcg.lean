/-
  The statement CompAgain: its walk.
-/
import Derived.Test.YtbljmjbialinkaaDoorLcr
namespace Go.Proofs.YtbljmjbialinkaaDoor
set_option linter.unusedSimpArgs false
set_option linter.unusedVariables false
open Go.RowKit Go.Sort Go.Maps

set_option maxRecDepth 100000 in
set_option maxHeartbeats 51200000 in
theorem compAgain_walk (a : ByteArray) (ha : a.size ≤ 1048576) (v : Value) (L : List Pb) (hb : ∀ q ∈ L, PubSz 1048576 q) (hl : L.length ≤ 1048576) (c : Int) (hc0 : 0 ≤ c) (hc1 : c ≤ 18446744073709551615) (w : World) (hm : Ml w) (hv : RPubs w v L) :
    Calls Tryd.prog 5 #[.string a, v, .int .u64 c] w fun e w' => e = .returned (.bool true) ∧ Below w.heap.size w w' := by
  have HM := Lib.hid hm
  have hcb : cntP L ≤ 4611686018427387904 := by
    have h1 := cntP_bd 1048576 L hb
    have h2 : L.length * (2 * 1048576 + 1) ≤ 1048576 * (2 * 1048576 + 1) := Nat.mul_le_mul_right _ hl
    omega
  have HSM := Lib.hid (small17_c v L w hv hcb)
  have HAW := Lib.hid (fun wx hx => awake17_c wx hx)
  have HV := Lib.hid hv
  have HB := Lib.hid hb
  obtain ⟨po, pc, rfl, hpm, hcl⟩ := hv.form
  have CL := Lib.hid hcl
  unfold maxLen at hpm
  clear hm hv hb hcb hcl
  cases hsm : smallP L with
  | false =>
    rw [hsm] at HSM
    clear hsm
    go_enter Tryd.func5, Tryd.ntmps5
    go_wp2_with (first | (go_at_call 10; refine HSM.out.mono ?_; rintro e w1 ⟨rfl, hC1⟩; have hm1 := HM.out.below hC1) | (go_at_call 8; refine (HAW.out _ hm1).mono ?_; rintro e w2 ⟨rfl, hC2⟩))
    go_ret
    exact ⟨rfl, hC1.trans (hC2.mono hC1.size)⟩
  | true =>
    have hl4 := small_len L hsm
    rw [hsm] at HSM
    clear hsm hl
    by_cases hz : L.length = 0
    · have z0 : ((L.length : Int) == 0) = true := by rw [beq_iff_eq]; omega
      clear hz
      go_enter Tryd.func5, Tryd.ntmps5
      go_wp2_with (first | (go_at_call 10; refine HSM.out.mono ?_; rintro e w1 ⟨rfl, hC1⟩; have hm1 := HM.out.below hC1) | (go_at_call 8; refine (HAW.out _ hm1).mono ?_; rintro e w2 ⟨rfl, hC2⟩))
      go_ret
      exact ⟨rfl, hC1.trans (hC2.mono hC1.size)⟩
    have z0 : ((L.length : Int) == 0) = false := by rw [beq_eq_false_iff_ne]; omega
    obtain ⟨b, off, rfl, hb1, hcl⟩ := CL.out (by omega)
    obtain ⟨n, hn⟩ : ∃ n, L.length = n + 1 := ⟨L.length - 1, by omega⟩
    have hn1 : (L.length : Int) - 1 = (n : Int) := by omega
    obtain ⟨K, hK, hKL⟩ : ∃ K : Nat, c % (L.length : Int) = (K : Int) ∧ K < L.length := ⟨(c % (L.length : Int)).toNat, (Int.toNat_of_nonneg (Int.emod_nonneg _ (by omega))).symm, by have := Int.emod_lt_of_pos c (show (0 : Int) < (L.length : Int) by omega); have := Int.emod_nonneg c (show (L.length : Int) ≠ 0 by omega); omega⟩
    obtain ⟨q, hq⟩ : ∃ q, q = L[K] := ⟨_, rfl⟩
    obtain ⟨r, hr⟩ : ∃ r, r = L[n]'(by omega) := ⟨_, rfl⟩
    have hqb := HB.out q (by rw [hq]; exact List.getElem_mem hKL)
    have hrb := HB.out r (by rw [hr]; exact List.getElem_mem (by omega))
    have hpq := hcl K hKL
    have hpr := hcl n (by omega)
    rw [← hq] at hpq
    rw [← hr] at hpr
    obtain ⟨_, _, _, _, a4, u1, u2, a5, a6, k1, k2⟩ := hpq
    have HKT := Lib.hid (And.intro k1 k2)
    obtain ⟨tuo, tc, rfl, htc⟩ := k1.cap
    obtain ⟨noo, nc, rfl, hnc⟩ := k2.cap
    have r0 := hpr.1
    obtain ⟨X, hX⟩ : ∃ X, X = r.num := ⟨_, rfl⟩
    rw [← hX] at r0
    have hX1 := hrb.1.1
    rw [← hX] at hX1
    obtain ⟨E, hE⟩ : ∃ x, x = bs q.doc.ent := ⟨_, rfl⟩
    have hsE : sv q.doc.ent = .string E := by rw [hE]; rfl
    rw [hsE] at a4
    have HSE := Lib.hid hsE
    have HQ := Lib.hid (fun (wx : World) (h : Below w.heap.size w wx) => (show wx.cell? ⟨b, off + K * 7 + 4, none⟩ = some (.string E) ∧ wx.cell? ⟨b, off + K * 7 + 5, none⟩ = some (.slice tuo q.doc.tups.length tc) ∧ wx.cell? ⟨b, off + K * 7 + 6, none⟩ = some (.slice noo q.doc.notes.length nc) ∧ wx.cell? ⟨b, off + n * 7, none⟩ = some (.int .i64 X) from by
      rw [h.cell (p := ⟨b, off + K * 7 + 4, none⟩) hb1, h.cell (p := ⟨b, off + K * 7 + 5, none⟩) hb1, h.cell (p := ⟨b, off + K * 7 + 6, none⟩) hb1, h.cell (p := ⟨b, off + n * 7, none⟩) hb1]
      exact ⟨a4, a5, a6, r0⟩))
    obtain ⟨xs, hxr, hxp⟩ := HV.out.rows
    have HXR := Lib.hid hxr
    have HXP := Lib.hid hxp
    have HXL := Lib.hid hxp.len
    have HX1 := Lib.hid hxp.one
    have HXC := Lib.hid (fun (wx : World) (h : Below w.heap.size w wx) => (show ∀ j u, xs[j]? = some u → wx.cell? ((⟨b, off, none⟩ : Addr).add j) = some u from fun j u hj => by
      rw [add_cell, h.cell (p := ⟨b, off + j, none⟩) hb1]
      rcases HXR.out with ⟨_, h0, _⟩ | ⟨b', off', cap', e1, _, _, _, h4⟩
      · exact absurd h0 hz
      · injection e1 with e1 _ _
        injection e1 with e1
        injection e1 with e1 e2 _
        subst e1
        subst e2
        exact h4 j u hj))
    have HAG := Lib.hid (fun h (hx : X < 1099511627776) => compose_again candP okDoc (us a) L q ⟨X + 1, q.doc⟩ h (by rw [hq]; exact List.getElem_mem hKL) rfl (fun x hx => by
      rw [List.getLast?_eq_getElem?, hn, Nat.add_sub_cancel, List.getElem?_eq_getElem (by omega), ← hr] at hx
      injection hx with hx
      rw [← hx, ← hX]
      show X < X + 1
      omega))
    have HPB := Lib.hid (fun (hx : X < 1099511627776) => (show PubBd 1048576 ⟨X + 1, q.doc⟩ from ⟨⟨by show _ ≤ X + 1; omega, by show X + 1 ≤ _; omega⟩, hqb.1.2⟩))
    have HC1 := Lib.hid (fun wx hx vv hL => compose_c (us a) vv L (by rw [length_us]; exact ha) (fun q hq => (HB.out q hq).1) (by omega) wx hx hL)
    have HC2 := Lib.hid (fun (hx : X < 1099511627776) wx hx2 vv hL => compose_f (us a) vv (L ++ [⟨X + 1, q.doc⟩]) (by rw [length_us]; exact ha) (fun p hp => by
      rcases List.mem_append.1 hp with hp | hp
      · exact (HB.out p hp).1
      · rw [List.mem_singleton.1 hp]; exact HPB.out hx) (by rw [List.length_append]; show _ + 1 ≤ _; omega) wx hx2 hL)
    have hsv : sv (us a) = .string a := by unfold sv; rw [bs_us]
    rw [hsv] at HC1 HC2
    obtain ⟨A, hA⟩ : ∃ A, A = composeS candP okDoc (us a) L := ⟨_, rfl⟩
    obtain ⟨B, hB⟩ : ∃ A, A = composeS candP okDoc (us a) (L ++ [⟨X + 1, q.doc⟩]) := ⟨_, rfl⟩
    rw [← hA] at HC1 HAG
    rw [← hB] at HC2 HAG
    have i0 : (0 : Int) ≤ (n : Int) := by omega
    have i1 : (n : Int) < (L.length : Int) := by omega
    have k0 : (0 : Int) ≤ (K : Int) := by omega
    have kk1 : (K : Int) < (L.length : Int) := by omega
    have hlp : (0 : Int) < (L.length : Int) := by omega
    have hlz : ¬ ((L.length : Int) = 0) := by omega
    clear hA hB hsv hcl hb1 hq hr hqb hrb hpr a4 a5 a6 k1 k2 r0 hX hE hsE hxr hxp hz hn htc hnc
    go_enter Tryd.func5, Tryd.ntmps5
    go_wp2_with (first | (go_at_call 10; refine HSM.out.mono ?_; rintro e w1 ⟨rfl, hC1⟩; have hm1 := HM.out.below hC1; have hv1 := HV.out.below hC1 (Nat.le_refl _)) | (go_at_call 7; refine (HC1.out _ hm1 _ hv1).mono ?_; rintro e w2 ⟨vd, rfl, hd, hC2⟩; obtain ⟨u1, u2, rfl, k1, k2⟩ := hd; have HK1 := Lib.hid (And.intro k1 k2); obtain ⟨ao, ac, rfl, hac⟩ := k1.cap; obtain ⟨bo, bc, rfl, hbc⟩ := k2.cap; clear k1 k2; have hB2 := hC1.trans (hC2.mono hC1.size)) | (with_reducible refine holdStore 25 rfl ?_))
    unfold Hold
    refine wpList_storeNew (vs := #[sv A.1.ent, .slice ao A.1.tups.length ac, .slice bo A.1.notes.length bc]) rfl rfl rfl rfl (by kernel_rfl) (by rfl) (by rfl) ?_
    have hN := (Below.refl w2.heap.size w2).alloc (Nat.le_refl _) (.cells #[sv A.1.ent, .slice ao A.1.tups.length ac, .slice bo A.1.notes.length bc] 25)
    have bA := Blk.new w2 25 #[sv A.1.ent, .slice ao A.1.tups.length ac, .slice bo A.1.notes.length bc]
    have hB3 := hB2.trans (hN.mono hB2.size)
    have j1 := HK1.out.1.below hN (Nat.le_refl _)
    have j2 := RRow.below HK1.out.2 hN (Nat.le_refl _)
    obtain ⟨gA, hgA⟩ : ∃ g, g = w2.heap.size := ⟨_, rfl⟩
    obtain ⟨w3, hw3⟩ : ∃ z, z = w2.alloc (.cells #[sv A.1.ent, .slice ao A.1.tups.length ac, .slice bo A.1.notes.length bc] 25) := ⟨_, rfl⟩
    rw [← hw3] at hN bA hB3 j1 j2
    rw [← hw3]
    rw [← hgA] at bA
    simp only [← hgA]
    have hm3 := HM.out.below hB3
    have HJ := Lib.hid (And.intro j1 j2)
    have HB3 := Lib.hid hB3
    have HBA := Lib.hid bA
    clear hw3 hgA hN bA hB3 j1 j2 hC1 hm1 hv1 hC2 hB2 HK1
    obtain ⟨q4, q5, q6, q0⟩ := HQ.out _ HB3.out
    by_cases he : A.2 = 0
    case neg =>
      have t0 : (A.2 != 0) = true := by simpa using he
      clear he
      go_wp2_with (go_at_call 8; refine (HAW.out _ hm3).mono ?_; rintro e w6 ⟨rfl, hC6⟩)
      go_ret
      exact ⟨rfl, HB3.out.trans (hC6.mono HB3.out.size)⟩
    case pos =>
      have t0 : (A.2 != 0) = false := by rw [he]; rfl
      by_cases hx : X < 1099511627776
      case neg =>
        have t1 : (1099511627776 : Int) ≤ X := by omega
        clear hx he
        go_wp2_with (go_at_call 8; refine (HAW.out _ hm3).mono ?_; rintro e w6 ⟨rfl, hC6⟩)
        go_ret
        exact ⟨rfl, HB3.out.trans (hC6.mono HB3.out.size)⟩
      case pos =>
        have hBA : B = A := HAG.out he hx
        have hc2 := HC2.out hx
        rw [hBA] at hc2
        have HC3 := Lib.hid hc2
        have t1 : ¬ (1099511627776 : Int) ≤ X := by omega
        have xw : IntKind.i64.wrap (X + 1) = X + 1 := IntWalk.i64_in _ (by omega)
        have hwn : IntKind.i64.wrap (n : Int) = (n : Int) := IntWalk.i64_in _ (by omega)
        have hwk : IntKind.i64.wrap (K : Int) = (K : Int) := IntWalk.i64_in _ (by omega)
        have hwu : IntKind.u64.wrap (L.length : Int) = (L.length : Int) := by simp [IntKind.wrap, IntKind.signed, IntKind.bits]; omega
        have hwv : IntKind.u64.wrap (K : Int) = (K : Int) := by simp [IntKind.wrap, IntKind.signed, IntKind.bits]; omega
        have hLn : ¬ L = [] := by intro e; rw [e] at hlz; exact hlz rfl
        have htm : c.tmod (L.length : Int) = (K : Int) := by rw [Int.tmod_eq_emod_of_nonneg hc0]; exact hK
        have t2 : (A.2 == 0) = true := by rw [he]; rfl
        clear hc2 hBA he HC2 HAG
        go_upto_region 6 with fail
        have HS := Lib.hid (fun (wx : World) (h : Below w3.heap.size w3 wx) => HQ.out _ (HB3.out.trans (h.mono HB3.out.size)))
        clear q4 q5 q6 q0
        have hZ : Below w3.heap.size w3 w3.drew := Drn.below ⟨1, rfl⟩
        refine wp_region_held_drew (S := fun wx => wx.cell? ⟨b, off + K * 7 + 4, none⟩ = some (.string E) ∧ wx.cell? ⟨b, off + K * 7 + 5, none⟩ = some (.slice tuo q.doc.tups.length tc) ∧ wx.cell? ⟨b, off + K * 7 + 6, none⟩ = some (.slice noo q.doc.notes.length nc) ∧ wx.cell? ⟨b, off + n * 7, none⟩ = some (.int .i64 X)) (by kernel_rfl) (HS.out _ hZ) (fun hHeld => ?_)
        refine wpAnyH_take (i := 0) (v := ?_) rfl (by kernel_rfl) (by kernel_rfl) (by kernel_rfl) (fun _ _ _ h => h) (Or.inl ⟨by rfl, ?_⟩) (by assumption) ?_
        rotate_left
        focus (intro _ hSw; (try dsimp only at hSw); go_simp; try (with_reducible rfl))
        try simp only [Act.put, List.getElem_toArray, List.getElem_cons_zero, List.getElem_cons_succ, List.setIfInBounds_toArray, List.set_cons_zero, List.set_cons_succ]
        refine wpAnyH_take (i := 1) (v := ?_) rfl (by kernel_rfl) (by kernel_rfl) (by kernel_rfl) (fun _ _ _ h => h) (Or.inl ⟨by rfl, ?_⟩) (by assumption) ?_
        rotate_left
        focus (intro _ hSw; (try dsimp only at hSw); go_simp; try (with_reducible rfl))
        try simp only [Act.put, List.getElem_toArray, List.getElem_cons_zero, List.getElem_cons_succ, List.setIfInBounds_toArray, List.set_cons_zero, List.set_cons_succ]
        refine wpAnyH_take (i := 2) (v := ?_) rfl (by kernel_rfl) (by kernel_rfl) (by kernel_rfl) (fun _ _ _ h => h) (Or.inl ⟨by rfl, ?_⟩) (by assumption) ?_
        rotate_left
        focus (intro _ hSw; (try dsimp only at hSw); go_simp; try (with_reducible rfl))
        try simp only [Act.put, List.getElem_toArray, List.getElem_cons_zero, List.getElem_cons_succ, List.setIfInBounds_toArray, List.set_cons_zero, List.set_cons_succ]
        refine wpAnyH_take (i := 3) (v := ?_) rfl (by kernel_rfl) (by kernel_rfl) (by kernel_rfl) (fun _ _ _ h => h) (Or.inl ⟨by rfl, ?_⟩) (by assumption) ?_
        rotate_left
        focus (intro _ hSw; (try dsimp only at hSw); go_simp; try (with_reducible rfl))
        try simp only [Act.put, List.getElem_toArray, List.getElem_cons_zero, List.getElem_cons_succ, List.setIfInBounds_toArray, List.set_cons_zero, List.set_cons_succ]
        refine wpAnyH_take (i := 4) (v := ?_) rfl (by kernel_rfl) (by kernel_rfl) (by kernel_rfl) (fun _ _ _ h => h) (Or.inl ⟨by rfl, ?_⟩) (by assumption) ?_
        rotate_left
        focus (intro _ hSw; (try dsimp only at hSw); go_simp; try (with_reducible rfl))
        try simp only [Act.put, List.getElem_toArray, List.getElem_cons_zero, List.getElem_cons_succ, List.setIfInBounds_toArray, List.set_cons_zero, List.set_cons_succ]
        refine wpAnyH_take (i := 5) (v := ?_) rfl (by kernel_rfl) (by kernel_rfl) (by kernel_rfl) (fun _ _ _ h => h) (Or.inl ⟨by rfl, ?_⟩) (by assumption) ?_
        rotate_left
        focus (intro _ hSw; (try dsimp only at hSw); go_simp; try (with_reducible rfl))
        try simp only [Act.put, List.getElem_toArray, List.getElem_cons_zero, List.getElem_cons_succ, List.setIfInBounds_toArray, List.set_cons_zero, List.set_cons_succ]
        refine wpAnyH_take (i := 6) (v := ?_) rfl (by kernel_rfl) (by kernel_rfl) (by kernel_rfl) (fun _ _ _ h => h) (Or.inl ⟨by rfl, ?_⟩) (by assumption) ?_
        rotate_left
        focus (intro _ hSw; (try dsimp only at hSw); go_simp; try (with_reducible rfl))
        try simp only [Act.put, List.getElem_toArray, List.getElem_cons_zero, List.getElem_cons_succ, List.setIfInBounds_toArray, List.set_cons_zero, List.set_cons_succ]
        refine wpAnyH_take (i := 7) (v := ?_) rfl (by kernel_rfl) (by kernel_rfl) (by kernel_rfl) (fun _ _ _ h => h) (Or.inl ⟨by rfl, ?_⟩) (by assumption) ?_
        rotate_left
        focus (intro _ hSw; (try dsimp only at hSw); go_simp; try (with_reducible rfl))
        try simp only [Act.put, List.getElem_toArray, List.getElem_cons_zero, List.getElem_cons_succ, List.setIfInBounds_toArray, List.set_cons_zero, List.set_cons_succ]
        refine wpAnyH_take (i := 8) (v := ?_) rfl (by kernel_rfl) (by kernel_rfl) (by kernel_rfl) (fun _ _ _ h => h) (Or.inl ⟨by rfl, ?_⟩) (by assumption) ?_
        rotate_left
        focus (intro _ hSw; (try dsimp only at hSw); go_simp; try (with_reducible rfl))
        try simp only [Act.put, List.getElem_toArray, List.getElem_cons_zero, List.getElem_cons_succ, List.setIfInBounds_toArray, List.set_cons_zero, List.set_cons_succ]
        refine wpAnyH_take (i := 9) (v := ?_) rfl (by kernel_rfl) (by kernel_rfl) (by kernel_rfl) (fun _ _ _ h => h) (Or.inl ⟨by rfl, ?_⟩) (by assumption) ?_
        rotate_left
        focus (intro _ hSw; (try dsimp only at hSw); go_simp; try (with_reducible rfl))
        try simp only [Act.put, List.getElem_toArray, List.getElem_cons_zero, List.getElem_cons_succ, List.setIfInBounds_toArray, List.set_cons_zero, List.set_cons_succ]
        refine wpAnyH_take (i := 10) (v := ?_) rfl (by kernel_rfl) (by kernel_rfl) (by kernel_rfl) (fun _ _ _ h => h) (Or.inl ⟨by rfl, ?_⟩) (by assumption) ?_
        rotate_left
        focus (intro _ hSw; (try dsimp only at hSw); go_simp; try (with_reducible rfl))
        try simp only [Act.put, List.getElem_toArray, List.getElem_cons_zero, List.getElem_cons_succ, List.setIfInBounds_toArray, List.set_cons_zero, List.set_cons_succ]
        refine wpAnyH_take (i := 11) (v := ?_) rfl (by kernel_rfl) (by kernel_rfl) (by kernel_rfl) (fun _ _ _ h => h) (Or.inl ⟨by rfl, ?_⟩) (by assumption) ?_
        rotate_left
        focus (intro _ hSw; (try dsimp only at hSw); go_simp; try (with_reducible rfl))
        try simp only [Act.put, List.getElem_toArray, List.getElem_cons_zero, List.getElem_cons_succ, List.setIfInBounds_toArray, List.set_cons_zero, List.set_cons_succ]
        refine wpAnyH_take (i := 12) (v := ?_) rfl (by kernel_rfl) (by kernel_rfl) (by kernel_rfl) (fun _ _ _ h => h) (Or.inl ⟨by rfl, ?_⟩) (by assumption) ?_
        rotate_left
        focus (intro _ hSw; (try dsimp only at hSw); go_simp; try (with_reducible rfl))
        try simp only [Act.put, List.getElem_toArray, List.getElem_cons_zero, List.getElem_cons_succ, List.setIfInBounds_toArray, List.set_cons_zero, List.set_cons_succ]
        refine wpAnyH_take (i := 13) (v := ?_) rfl (by kernel_rfl) (by kernel_rfl) (by kernel_rfl) (fun _ _ _ h => h) (Or.inl ⟨by rfl, ?_⟩) (by assumption) ?_
        rotate_left
        focus (intro _ hSw; (try dsimp only at hSw); go_simp; try (with_reducible rfl))
        try simp only [Act.put, List.getElem_toArray, List.getElem_cons_zero, List.getElem_cons_succ, List.setIfInBounds_toArray, List.set_cons_zero, List.set_cons_succ]
        refine wpAnyH_take (i := 14) (v := ?_) rfl (by kernel_rfl) (by kernel_rfl) (by kernel_rfl) (fun _ _ _ h => h) (Or.inl ⟨by rfl, ?_⟩) (by assumption) ?_
        rotate_left
        focus (intro _ hSw; (try dsimp only at hSw); go_simp; try (with_reducible rfl))
        try simp only [Act.put, List.getElem_toArray, List.getElem_cons_zero, List.getElem_cons_succ, List.setIfInBounds_toArray, List.set_cons_zero, List.set_cons_succ]
        refine wpAnyH_take (i := 15) (v := ?_) rfl (by kernel_rfl) (by kernel_rfl) (by kernel_rfl) (fun _ _ _ h => h) (Or.inl ⟨by rfl, ?_⟩) (by assumption) ?_
        rotate_left
        focus (intro _ hSw; (try dsimp only at hSw); go_simp; try (with_reducible rfl))
        try simp only [Act.put, List.getElem_toArray, List.getElem_cons_zero, List.getElem_cons_succ, List.setIfInBounds_toArray, List.set_cons_zero, List.set_cons_succ]
        refine wpAnyH_take (i := 16) (v := ?_) rfl (by kernel_rfl) (by kernel_rfl) (by kernel_rfl) (fun _ _ _ h => h) (Or.inl ⟨by rfl, ?_⟩) (by assumption) ?_
        rotate_left
        focus (intro _ hSw; (try dsimp only at hSw); go_simp; try (with_reducible rfl))
        try simp only [Act.put, List.getElem_toArray, List.getElem_cons_zero, List.getElem_cons_succ, List.setIfInBounds_toArray, List.set_cons_zero, List.set_cons_succ]
        refine wpAnyH_take (i := 17) (v := ?_) rfl (by kernel_rfl) (by kernel_rfl) (by kernel_rfl) (fun _ _ _ h => h) (Or.inl ⟨by rfl, ?_⟩) (by assumption) ?_
        rotate_left
        focus (intro _ hSw; (try dsimp only at hSw); go_simp; try (with_reducible rfl))
        try simp only [Act.put, List.getElem_toArray, List.getElem_cons_zero, List.getElem_cons_succ, List.setIfInBounds_toArray, List.set_cons_zero, List.set_cons_succ]
        refine wpAnyH_take (i := 18) (v := ?_) rfl (by kernel_rfl) (by kernel_rfl) (by kernel_rfl) (fun _ _ _ h => h) (Or.inl ⟨by rfl, ?_⟩) (by assumption) ?_
        rotate_left
        focus (intro _ hSw; (try dsimp only at hSw); go_simp; try (with_reducible rfl))
        try simp only [Act.put, List.getElem_toArray, List.getElem_cons_zero, List.getElem_cons_succ, List.setIfInBounds_toArray, List.set_cons_zero, List.set_cons_succ]
        refine wpAnyH_ready (rs := [19]) (by kernel_rfl) (by simp) ?_
        refine AllReadyH.cons rfl (fun K hK => ?_) ?_
        ·
          go_simp
          refine hK.out _ _ ?_ (fun hHeld => ?_)
          focus ((try dsimp only); first | exact HS.out _ hZ | exact HS.out _ (hZ.alloc hZ.size _) | exact HS.out _ (Below.setRow (hZ.alloc hZ.size _) (Nat.le_refl _) _))
          clear hK K
          try simp only [Act.put, List.getElem_toArray, List.getElem_cons_zero, List.getElem_cons_succ, List.setIfInBounds_toArray, List.set_cons_zero, List.set_cons_succ]
          refine wpAnyH_ready (rs := [20]) (by kernel_rfl) (by simp) ?_
          refine AllReadyH.cons rfl (fun K hK => ?_) ?_
          ·
            rw [if_pos (by rfl)]
            refine wp_store_row _ _ _ rfl _ #[.int .i64 (X + 1), .string ⟨#[]⟩, .string ⟨#[]⟩, .int .i64 0, .string E, .slice tuo q.doc.tups.length tc, .slice noo q.doc.notes.length nc] rfl rfl _ _ (Blk.new w3.drew 27 #[.int .i64 0, .string ⟨#[]⟩, .string ⟨#[]⟩, .int .i64 0, .string ⟨#[]⟩, .slice none 0 0, .slice none 0 0]) (by kernel_rfl) (by rfl) (by kernel_rfl) ?_
            try go_simp
            refine hK.out _ _ ?_ (fun hHeld => ?_)
            focus ((try dsimp only); first | exact HS.out _ hZ | exact HS.out _ (hZ.alloc hZ.size _) | exact HS.out _ (Below.setRow (hZ.alloc hZ.size _) (Nat.le_refl _) _))
            clear hK K
            try simp only [Act.put, List.getElem_toArray, List.getElem_cons_zero, List.getElem_cons_succ, List.setIfInBounds_toArray, List.set_cons_zero, List.set_cons_succ]
            refine wpAnyH_done (by kernel_rfl) ?_ _
            clear hHeld
            obtain ⟨gP, hgP⟩ : ∃ g, g = w3.heap.size := ⟨_, rfl⟩
            obtain ⟨w6, hw6⟩ : ∃ z, z = World.setRow (World.drew (w3.alloc (.cells #[.int .i64 0, .string ⟨#[]⟩, .string ⟨#[]⟩, .int .i64 0, .string ⟨#[]⟩, .slice none 0 0, .slice none 0 0] 27))) w3.heap.size #[.int .i64 (X + 1), .string ⟨#[]⟩, .string ⟨#[]⟩, .int .i64 0, .string E, .slice tuo q.doc.tups.length tc, .slice noo q.doc.notes.length nc] := ⟨_, rfl⟩
            have hZ6 : Below w3.heap.size w3 w6 := by rw [hw6]; exact Below.setRow (((Below.refl w3.heap.size w3).alloc (Nat.le_refl _) _).trans (Drn.below ⟨1, rfl⟩)) (Nat.le_refl _) _
            have bP6 : Blk w6 gP 27 #[.int .i64 (X + 1), .string ⟨#[]⟩, .string ⟨#[]⟩, .int .i64 0, .string E, .slice tuo q.doc.tups.length tc, .slice noo q.doc.notes.length nc] := by rw [hw6, hgP]; exact Blk.row (show Blk (World.drew (w3.alloc (.cells #[.int .i64 0, .string ⟨#[]⟩, .string ⟨#[]⟩, .int .i64 0, .string ⟨#[]⟩, .slice none 0 0, .slice none 0 0] 27))) w3.heap.size 27 #[.int .i64 0, .string ⟨#[]⟩, .string ⟨#[]⟩, .int .i64 0, .string ⟨#[]⟩, .slice none 0 0, .slice none 0 0] from Blk.new w3 _ _) _
            rw [← hw6]
            simp only [← hgP]
            clear hw6 hgP
            go_upto_region 7 with fail
            have hD7 : Below w6.heap.size w6 w6.drew := Drn.below ⟨1, rfl⟩
            obtain ⟨z0, hz0⟩ : ∃ z, z = w6.drew := ⟨_, rfl⟩
            rw [← hz0] at hD7
            have HBP := Lib.hid (Blk.call bP6 hD7)
            have HB3z := Lib.hid (hZ6.trans (hD7.mono hZ6.size))
            have HBz := Lib.hid (HB3.out.trans (HB3z.out.mono HB3.out.size))
            have HS7 := Lib.hid (fun (wx : World) (h : Below z0.heap.size z0 wx) => (show wx.cell? ⟨gP, 0, none⟩ = some (.int .i64 (X + 1)) ∧ wx.cell? ⟨gP, 1, none⟩ = some (.string ⟨#[]⟩) ∧ wx.cell? ⟨gP, 2, none⟩ = some (.string ⟨#[]⟩) ∧ wx.cell? ⟨gP, 3, none⟩ = some (.int .i64 0) ∧ wx.cell? ⟨gP, 4, none⟩ = some (.string E) ∧ wx.cell? ⟨gP, 5, none⟩ = some (.slice tuo q.doc.tups.length tc) ∧ wx.cell? ⟨gP, 6, none⟩ = some (.slice noo q.doc.notes.length nc) from ⟨boxedCell (Blk.call HBP.out h) 0, boxedCell (Blk.call HBP.out h) 1, boxedCell (Blk.call HBP.out h) 2, boxedCell (Blk.call HBP.out h) 3, boxedCell (Blk.call HBP.out h) 4, boxedCell (Blk.call HBP.out h) 5, boxedCell (Blk.call HBP.out h) 6⟩))
            clear hZ hZ6 bP6 hD7 HS
            refine wp_region_held_drew (S := fun wx => wx.cell? ⟨gP, 0, none⟩ = some (.int .i64 (X + 1)) ∧ wx.cell? ⟨gP, 1, none⟩ = some (.string ⟨#[]⟩) ∧ wx.cell? ⟨gP, 2, none⟩ = some (.string ⟨#[]⟩) ∧ wx.cell? ⟨gP, 3, none⟩ = some (.int .i64 0) ∧ wx.cell? ⟨gP, 4, none⟩ = some (.string E) ∧ wx.cell? ⟨gP, 5, none⟩ = some (.slice tuo q.doc.tups.length tc) ∧ wx.cell? ⟨gP, 6, none⟩ = some (.slice noo q.doc.notes.length nc)) (by kernel_rfl) (by rw [← hz0]; exact HS7.out _ (Below.refl _ _)) (fun hHeld => ?_)
            rw [← hz0] at hHeld ⊢
            clear hz0
            have hZ : Below z0.heap.size z0 z0 := Below.refl _ _
            refine wpAnyH_take (i := 0) (v := ?_) rfl (by kernel_rfl) (by kernel_rfl) (by kernel_rfl) (fun _ _ _ h => h) (Or.inl ⟨by rfl, ?_⟩) (by assumption) ?_
            rotate_left
            focus (intro _ hSw; (try dsimp only at hSw); go_simp; try (with_reducible rfl))
            try simp only [Act.put, List.getElem_toArray, List.getElem_cons_zero, List.getElem_cons_succ, List.setIfInBounds_toArray, List.set_cons_zero, List.set_cons_succ]
            refine wpAnyH_take (i := 2) (v := ?_) rfl (by kernel_rfl) (by kernel_rfl) (by kernel_rfl) (fun _ _ _ h => h) (Or.inl ⟨by rfl, ?_⟩) (by assumption) ?_
            rotate_left
            focus (intro _ hSw; (try dsimp only at hSw); go_simp; try (with_reducible rfl))
            try simp only [Act.put, List.getElem_toArray, List.getElem_cons_zero, List.getElem_cons_succ, List.setIfInBounds_toArray, List.set_cons_zero, List.set_cons_succ]
            refine wpAnyH_take (i := 4) (v := ?_) rfl (by kernel_rfl) (by kernel_rfl) (by kernel_rfl) (fun _ _ _ h => h) (Or.inl ⟨by rfl, ?_⟩) (by assumption) ?_
            rotate_left
            focus (intro _ hSw; (try dsimp only at hSw); go_simp; try (with_reducible rfl))
            try simp only [Act.put, List.getElem_toArray, List.getElem_cons_zero, List.getElem_cons_succ, List.setIfInBounds_toArray, List.set_cons_zero, List.set_cons_succ]
            refine wpAnyH_ready (rs := [1, 5, 11]) (by kernel_rfl) (by simp) ?_
            refine AllReadyH.cons rfl (fun K hK => ?_) ?_
            ·
              obtain ⟨g1, hg1⟩ : ∃ g, g = z0.heap.size := ⟨_, rfl⟩
              obtain ⟨c1, hc1⟩ : ∃ z, z = z0.alloc (.cells #[] 27) := ⟨_, rfl⟩
              have hZn : Below z0.heap.size z0 c1 := by rw [hc1]; exact hZ.alloc hZ.size _
              have hRn : c1.ownsRow z0.heap.size 27 7 (.slice (some ⟨g1, 0, none⟩) 0 0) 0 [] := by rw [hc1, hg1]; exact World.ownsRow_lit (base := z0.heap.size) (e := 27) (size := 7) z0 #[] 0 hZ.size (by decide) rfl
              go_simp
              refine hK.out _ _ ?_ (fun hHeld => ?_)
              focus ((try dsimp only); first | exact HS7.out _ hZn | (rw [← hc1]; exact HS7.out _ hZn))
              clear hK K
              try simp only [Act.put, List.getElem_toArray, List.getElem_cons_zero, List.getElem_cons_succ, List.setIfInBounds_toArray, List.set_cons_zero, List.set_cons_succ]
              rw [← hc1] at hHeld ⊢
              try simp only [← hg1]
              clear hZ
              have hZ := hZn
              clear hZn
              skip
              have hR := hRn
              clear hRn
              clear hc1 hg1
              refine wpAnyH_ready (rs := [3, 5, 11]) (by kernel_rfl) (by simp) ?_
              refine AllReadyH.cons rfl (fun K hK => ?_) ?_
              ·
                refine op_appG (base := z0.heap.size) (v := (.slice (some ⟨g1, 0, none⟩) 0 0)) (n := 0) (xs := []) (news := xs) (ad := ⟨b, off, none⟩) (m := L.length) (c := pc) rfl Tryd.underlying31 infoPub rfl (by decide) rfl rfl hR (by omega) HXL.out (HXC.out _ (HBz.out.trans (hZ.mono HBz.out.size))) HX1.out (by decide) (by omega) hZ.size (fun v3 c2 h2 h3 h4 => ?_)
                have hZn := hZ.grown h3 hZ.size (fun k hk => (World.ownsRow.lt hR k hk).1)
                have hRn : c2.ownsRow z0.heap.size 27 7 v3 L.length xs := by simpa using h2
                clear hZ hR h2
                have hZ := hZn
                have hR := hRn
                clear hZn hRn h3 h4
                refine hK.out _ _ ?_ (fun hHeld => ?_)
                focus ((try dsimp only); exact HS7.out _ hZ)
                clear hK K
                try simp only [Act.put, List.getElem_toArray, List.getElem_cons_zero, List.getElem_cons_succ, List.setIfInBounds_toArray, List.set_cons_zero, List.set_cons_succ]
                refine wpAnyH_ready (rs := [5, 11]) (by kernel_rfl) (by simp) ?_
                refine AllReadyH.cons rfl (fun K hK => ?_) ?_
                ·
                  obtain ⟨g5, hg5⟩ : ∃ g, g = c2.heap.size := ⟨_, rfl⟩
                  obtain ⟨c3, hc3⟩ : ∃ z, z = c2.alloc (.cells #[.int .i64 (X + 1), .string ⟨#[]⟩, .string ⟨#[]⟩, .int .i64 0, .string E, .slice tuo q.doc.tups.length tc, .slice noo q.doc.notes.length nc] 27) := ⟨_, rfl⟩
                  have hZn : Below z0.heap.size z0 c3 := by rw [hc3]; exact hZ.alloc hZ.size _
                  have bg5n : Blk c3 g5 27 #[.int .i64 (X + 1), .string ⟨#[]⟩, .string ⟨#[]⟩, .int .i64 0, .string E, .slice tuo q.doc.tups.length tc, .slice noo q.doc.notes.length nc] := by rw [hc3, hg5]; exact Blk.new _ _ _
                  have hRn : c3.ownsRow z0.heap.size 27 7 v3 L.length xs := by rw [hc3]; exact World.ownsRow.alloc hR _
                  have eg5 : some g5 ≠ (Value.ownBlock v3) := fun e => by have := (World.ownsRow.lt hR _ e.symm).2; omega
                  go_simp
                  refine hK.out _ _ ?_ (fun hHeld => ?_)
                  focus ((try dsimp only); first | exact HS7.out _ hZn | (rw [← hc3]; exact HS7.out _ hZn))
                  clear hK K
                  try simp only [Act.put, List.getElem_toArray, List.getElem_cons_zero, List.getElem_cons_succ, List.setIfInBounds_toArray, List.set_cons_zero, List.set_cons_succ]
                  rw [← hc3] at hHeld ⊢
                  try simp only [← hg5]
                  clear hZ
                  have hZ := hZn
                  clear hZn
                  clear hR
                  have hR := hRn
                  clear hRn
                  have bg5 := bg5n
                  clear bg5n
                  clear hc3 hg5
                  refine wpAnyH_ready (rs := [6, 11]) (by kernel_rfl) (by simp) ?_
                  refine AllReadyH.cons rfl (fun K hK => ?_) ?_
                  ·
                    refine op_appG (base := z0.heap.size) (v := v3) (n := L.length) (xs := xs) (news := (#[.int .i64 (X + 1), .string ⟨#[]⟩, .string ⟨#[]⟩, .int .i64 0, .string E, .slice tuo q.doc.tups.length tc, .slice noo q.doc.notes.length nc] : Array Value).toList) (ad := ⟨g5, 0, none⟩) (m := 1) (c := 1) rfl Tryd.underlying31 infoPub rfl (by decide) rfl rfl hR (by decide) rfl (fun j u hj => by rw [add_cell]; have := boxedCell bg5 (0 + j); rw [this]; simpa using hj) (by intro u hu; simp at hu; rcases hu with rfl | rfl | rfl | rfl | rfl | rfl | rfl <;> rfl) (by decide) (by omega) hZ.size (fun v6 c4 h2 h3 h4 => ?_)
                    have hZn := hZ.grown h3 hZ.size (fun k hk => (World.ownsRow.lt hR k hk).1)
                    have hRn := h2
                    have bg5n := blk_grownO bg5 h3 eg5
                    have eg5n : some g5 ≠ Value.ownBlock v6 := fun e => by
                      rcases h4 with h4 | h4
                      · exact eg5 (e.trans h4)
                      · rw [h4] at e; injection e with e; have := Blk.lt bg5; omega
                    clear hZ hR h2
                    have hZ := hZn
                    have hR := hRn
                    clear hZn hRn h3 h4
                    clear bg5 eg5
                    have bg5 := bg5n
                    have eg5 := eg5n
                    clear bg5n eg5n
                    refine hK.out _ _ ?_ (fun hHeld => ?_)
                    focus ((try dsimp only); exact HS7.out _ hZ)
                    clear hK K
                    try simp only [Act.put, List.getElem_toArray, List.getElem_cons_zero, List.getElem_cons_succ, List.setIfInBounds_toArray, List.set_cons_zero, List.set_cons_succ]
                    refine wpAnyH_ready (rs := [7, 11]) (by kernel_rfl) (by simp) ?_
                    refine AllReadyH.cons rfl (fun K hK => ?_) ?_
                    ·
                      have hpubs : RPubs c4 v6 (L ++ [⟨X + 1, q.doc⟩]) := RPubs.of_rows (xs := xs ++ (#[.int .i64 (X + 1), .string ⟨#[]⟩, .string ⟨#[]⟩, .int .i64 0, .string E, .slice tuo q.doc.tups.length tc, .slice noo q.doc.notes.length nc] : Array Value).toList) (by rw [List.length_append]; exact RRow.of_own hR) (PubRows.snoc (HXP.out.below (HBz.out.trans (hZ.mono HBz.out.size)) (Nat.le_refl _)) ⟨⟨#[]⟩, ⟨#[]⟩, 0, _, _, by rw [HSE.out], HKT.out.1.below (HBz.out.trans (hZ.mono HBz.out.size)) (Nat.le_refl _), RRow.below HKT.out.2 (HBz.out.trans (hZ.mono HBz.out.size)) (Nat.le_refl _)⟩)
                      go_simp
                      go_at_call 7
                      refine (HC3.out _ (HM.out.below (HBz.out.trans (hZ.mono HBz.out.size))) _ hpubs).mono ?_
                      rintro e c5 ⟨u1, u2, rfl, k1, k2, fr1, fr2, hC⟩
                      have HK2 := Lib.hid (And.intro k1 k2)
                      obtain ⟨co, cc, rfl, hcc⟩ := k1.cap
                      obtain ⟨eo, ec, rfl, hec⟩ := k2.cap
                      have hZn := hZ.trans (hC.mono hZ.size)
                      clear hZ hR bg5 eg5 k1 k2 fr1 fr2 hC hpubs
                      have hZ := hZn
                      clear hZn
                      (try dsimp only)
                      refine hK.out _ _ ?_ (fun hHeld => ?_)
                      focus ((try dsimp only); exact HS7.out _ hZ)
                      clear hK K
                      try simp only [Act.put, List.getElem_toArray, List.getElem_cons_zero, List.getElem_cons_succ, List.setIfInBounds_toArray, List.set_cons_zero, List.set_cons_succ]
                      refine wpAnyH_take (i := 8) (v := ?_) rfl (by kernel_rfl) (by kernel_rfl) (by kernel_rfl) (fun _ _ _ h => h) (Or.inl ⟨by rfl, ?_⟩) (by assumption) ?_
                      rotate_left
                      focus (intro _ hSw; (try dsimp only at hSw); go_simp; try (with_reducible rfl))
                      try simp only [Act.put, List.getElem_toArray, List.getElem_cons_zero, List.getElem_cons_succ, List.setIfInBounds_toArray, List.set_cons_zero, List.set_cons_succ]
                      refine wpAnyH_take (i := 9) (v := ?_) rfl (by kernel_rfl) (by kernel_rfl) (by kernel_rfl) (fun _ _ _ h => h) (Or.inl ⟨by rfl, ?_⟩) (by assumption) ?_
                      rotate_left
                      focus (intro _ hSw; (try dsimp only at hSw); go_simp; try (with_reducible rfl))
                      try simp only [Act.put, List.getElem_toArray, List.getElem_cons_zero, List.getElem_cons_succ, List.setIfInBounds_toArray, List.set_cons_zero, List.set_cons_succ]
                      refine wpAnyH_take (i := 10) (v := ?_) rfl (by kernel_rfl) (by kernel_rfl) (by kernel_rfl) (fun _ _ _ h => h) (Or.inl ⟨by rfl, ?_⟩) (by assumption) ?_
                      rotate_left
                      focus (intro _ hSw; (try dsimp only at hSw); go_simp; try (with_reducible rfl))
                      try simp only [Act.put, List.getElem_toArray, List.getElem_cons_zero, List.getElem_cons_succ, List.setIfInBounds_toArray, List.set_cons_zero, List.set_cons_succ]
                      refine wpAnyH_ready (rs := [11]) (by kernel_rfl) (by simp) ?_
                      refine AllReadyH.cons rfl (fun K hK => ?_) ?_
                      ·
                        obtain ⟨gN, hgN⟩ : ∃ g, g = c5.heap.size := ⟨_, rfl⟩
                        obtain ⟨c6, hc6⟩ : ∃ z, z = c5.alloc (.cells #[.string ⟨#[]⟩, .slice none 0 0, .slice none 0 0] 25) := ⟨_, rfl⟩
                        have hZn : Below z0.heap.size z0 c6 := by rw [hc6]; exact hZ.alloc hZ.size _
                        have bgNn : Blk c6 gN 25 #[.string ⟨#[]⟩, .slice none 0 0, .slice none 0 0] := by rw [hc6, hgN]; exact Blk.new _ _ _
                        have HK2n := Lib.hid (show RTups c6 (.slice co A.1.tups.length cc) A.1.tups ∧ RStrs c6 (.slice eo A.1.notes.length ec) A.1.notes from by rw [hc6]; exact ⟨HK2.out.1.below ((Below.refl c5.heap.size c5).alloc (Nat.le_refl _) _) (Nat.le_refl _), RRow.below HK2.out.2 ((Below.refl c5.heap.size c5).alloc (Nat.le_refl _) _) (Nat.le_refl _)⟩)
                        have hOf : Offs gN (.slice co A.1.tups.length cc) A.1.tups ∧ Offs gN (.slice eo A.1.notes.length ec) A.1.notes := ⟨RRow.offT HK2.out.1 (Nat.le_of_eq hgN.symm), RRow.offS HK2.out.2 (Nat.le_of_eq hgN.symm)⟩
                        have fN : z0.heap.size ≤ gN := by rw [hgN]; exact hZ.size
                        go_simp
                        refine hK.out _ _ ?_ (fun hHeld => ?_)
                        focus ((try dsimp only); first | exact HS7.out _ hZn | (rw [← hc6]; exact HS7.out _ hZn))
                        clear hK K
                        try simp only [Act.put, List.getElem_toArray, List.getElem_cons_zero, List.getElem_cons_succ, List.setIfInBounds_toArray, List.set_cons_zero, List.set_cons_succ]
                        rw [← hc6] at hHeld ⊢
                        try simp only [← hgN]
                        clear hZ
                        have hZ := hZn
                        clear hZn
                        have bgN := bgNn
                        clear bgNn
                        clear HK2
                        have HK2 := HK2n
                        clear HK2n
                        clear hc6 hgN
                        refine wpAnyH_ready (rs := [12]) (by kernel_rfl) (by simp) ?_
                        refine AllReadyH.cons rfl (fun K hK => ?_) ?_
                        ·
                          rw [if_pos (by rfl)]
                          refine wp_store_row _ _ _ rfl _ #[sv A.1.ent, .slice co A.1.tups.length cc, .slice eo A.1.notes.length ec] rfl rfl _ _ bgN (by kernel_rfl) (by rfl) (by kernel_rfl) ?_
                          try go_simp
                          refine hK.out _ _ ?_ (fun hHeld => ?_)
                          focus ((try dsimp only); exact HS7.out _ (Below.setRow hZ fN _))
                          clear hK K
                          try simp only [Act.put, List.getElem_toArray, List.getElem_cons_zero, List.getElem_cons_succ, List.setIfInBounds_toArray, List.set_cons_zero, List.set_cons_succ]
                          obtain ⟨c7, hc7⟩ : ∃ z, z = World.setRow c6 gN #[sv A.1.ent, .slice co A.1.tups.length cc, .slice eo A.1.notes.length ec] := ⟨_, rfl⟩
                          have hZf : Below z0.heap.size z0 c7 := by rw [hc7]; exact Below.setRow hZ fN _
                          have bF : Blk c7 gN 25 #[sv A.1.ent, .slice co A.1.tups.length cc, .slice eo A.1.notes.length ec] := by rw [hc7]; exact Blk.row bgN _
                          have HKF := Lib.hid (show RTups c7 (.slice co A.1.tups.length cc) A.1.tups ∧ RStrs c7 (.slice eo A.1.notes.length ec) A.1.notes from by rw [hc7]; exact ⟨RRow.rowT HK2.out.1 hOf.1, RRow.rowS HK2.out.2 hOf.2⟩)
                          rw [← hc7] at hHeld ⊢
                          clear hc7 hZ bgN HK2 hOf fN
                          obtain ⟨wf, hwf⟩ : ∃ z, z = c7 := ⟨_, rfl⟩
                          subst hwf
                          refine wpAnyH_take (i := 13) (v := ?_) rfl (by kernel_rfl) (by kernel_rfl) (by kernel_rfl) (fun _ _ _ h => h) (Or.inl ⟨by rfl, ?_⟩) (by assumption) ?_
                          rotate_left
                          focus (intro _ hSw; (try dsimp only at hSw); go_simp; try (with_reducible rfl))
                          try simp only [Act.put, List.getElem_toArray, List.getElem_cons_zero, List.getElem_cons_succ, List.setIfInBounds_toArray, List.set_cons_zero, List.set_cons_succ]
                          refine wpAnyH_done (by kernel_rfl) ?_ _
                          have hZ := hZf
                          clear hZf
                          have hBF := HBz.out.trans (hZ.mono HBz.out.size)
                          have h3F := HB3z.out.trans (hZ.mono HB3z.out.size)
                          have hmF := HM.out.below hBF
                          obtain ⟨p0, p1, p2⟩ := blk_f3T (Blk.call HBA.out h3F)
                          obtain ⟨q0, q1, q2⟩ := blk_f3T bF
                          have hsd := fun wx va vb hx hy => sameDoc_c va vb A.1 A.1 wx hx hy
                          rw [sameDoc_self] at hsd
                          have HSD := Lib.hid hsd
                          have HD1 := Lib.hid (show RDoc _ (.agg #[sv A.1.ent, .slice ao A.1.tups.length ac, .slice bo A.1.notes.length bc]) A.1 from ⟨_, _, rfl, HJ.out.1.below h3F (Nat.le_refl _), RRow.below HJ.out.2 h3F (Nat.le_refl _)⟩)
                          have HD2 := Lib.hid (show RDoc _ (.agg #[sv A.1.ent, .slice co A.1.tups.length cc, .slice eo A.1.notes.length ec]) A.1 from ⟨_, _, rfl, HKF.out.1, HKF.out.2⟩)
                          clear hsd bF hHeld
                          go_wp2_with (first | (go_at_call 9; refine (HSD.out _ _ _ HD1.out HD2.out).mono ?_; rintro e w17 ⟨rfl, hC7⟩; have hm7 := hmF.below hC7) | (go_at_call 8; refine (HAW.out _ hm7).mono ?_; rintro e w18 ⟨rfl, hC8⟩))
                          go_ret
                          exact ⟨rfl, (hBF.trans (hC7.mono hBF.size)).trans (hC8.mono (Nat.le_trans hBF.size hC7.size))⟩
                        exact AllReadyH.nil
                      exact AllReadyH.nil
                    refine AllReadyH.cons rfl (fun K hK => ?_) ?_
                    ·
                      obtain ⟨gN, hgN⟩ : ∃ g, g = c4.heap.size := ⟨_, rfl⟩
                      obtain ⟨c8, hc8⟩ : ∃ z, z = c4.alloc (.cells #[.string ⟨#[]⟩, .slice none 0 0, .slice none 0 0] 25) := ⟨_, rfl⟩
                      have hZn : Below z0.heap.size z0 c8 := by rw [hc8]; exact hZ.alloc hZ.size _
                      have bgNn : Blk c8 gN 25 #[.string ⟨#[]⟩, .slice none 0 0, .slice none 0 0] := by rw [hc8, hgN]; exact Blk.new _ _ _
                      have bg5n : Blk c8 g5 27 #[.int .i64 (X + 1), .string ⟨#[]⟩, .string ⟨#[]⟩, .int .i64 0, .string E, .slice tuo q.doc.tups.length tc, .slice noo q.doc.notes.length nc] := by rw [hc8]; exact Blk.alloc bg5 _
                      have hRn : c8.ownsRow z0.heap.size 27 7 v6 (L.length + 1) (xs ++ (#[.int .i64 (X + 1), .string ⟨#[]⟩, .string ⟨#[]⟩, .int .i64 0, .string E, .slice tuo q.doc.tups.length tc, .slice noo q.doc.notes.length nc] : Array Value).toList) := by rw [hc8]; exact World.ownsRow.alloc hR _
                      have egN : some gN ≠ (Value.ownBlock v6) := fun e => by have := (World.ownsRow.lt hR _ e.symm).2; omega
                      have fN : z0.heap.size ≤ gN := by rw [hgN]; exact hZ.size
                      go_simp
                      refine hK.out _ _ ?_ (fun hHeld => ?_)
                      focus ((try dsimp only); first | exact HS7.out _ hZn | (rw [← hc8]; exact HS7.out _ hZn))
                      clear hK K
                      try simp only [Act.put, List.getElem_toArray, List.getElem_cons_zero, List.getElem_cons_succ, List.setIfInBounds_toArray, List.set_cons_zero, List.set_cons_succ]
                      rw [← hc8] at hHeld ⊢
                      try simp only [← hgN]
                      clear hZ
                      have hZ := hZn
                      clear hZn
                      clear hR
                      have hR := hRn
                      clear hRn
                      clear bg5
                      have bg5 := bg5n
                      clear bg5n
                      have bgN := bgNn
                      clear bgNn
                      clear hc8 hgN
                      refine wpAnyH_ready (rs := [7]) (by kernel_rfl) (by simp) ?_
                      refine AllReadyH.cons rfl (fun K hK => ?_) ?_
                      ·
                        have hpubs : RPubs c8 v6 (L ++ [⟨X + 1, q.doc⟩]) := RPubs.of_rows (xs := xs ++ (#[.int .i64 (X + 1), .string ⟨#[]⟩, .string ⟨#[]⟩, .int .i64 0, .string E, .slice tuo q.doc.tups.length tc, .slice noo q.doc.notes.length nc] : Array Value).toList) (by rw [List.length_append]; exact RRow.of_own hR) (PubRows.snoc (HXP.out.below (HBz.out.trans (hZ.mono HBz.out.size)) (Nat.le_refl _)) ⟨⟨#[]⟩, ⟨#[]⟩, 0, _, _, by rw [HSE.out], HKT.out.1.below (HBz.out.trans (hZ.mono HBz.out.size)) (Nat.le_refl _), RRow.below HKT.out.2 (HBz.out.trans (hZ.mono HBz.out.size)) (Nat.le_refl _)⟩)
                        go_simp
                        go_at_call 7
                        refine (HC3.out _ (HM.out.below (HBz.out.trans (hZ.mono HBz.out.size))) _ hpubs).mono ?_
                        rintro e c9 ⟨u1, u2, rfl, k1, k2, fr1, fr2, hC⟩
                        have HK2 := Lib.hid (And.intro k1 k2)
                        obtain ⟨co, cc, rfl, hcc⟩ := k1.cap
                        obtain ⟨eo, ec, rfl, hec⟩ := k2.cap
                        have hZn := hZ.trans (hC.mono hZ.size)
                        have bgNn := Blk.call bgN hC
                        have hOf : Offs gN (.slice co A.1.tups.length cc) A.1.tups ∧ Offs gN (.slice eo A.1.notes.length ec) A.1.notes := ⟨Offs.fresh fr1 (Blk.lt bgN), Offs.fresh fr2 (Blk.lt bgN)⟩
                        clear bgN egN
                        have bgN := bgNn
                        clear bgNn
                        clear hZ hR bg5 eg5 k1 k2 fr1 fr2 hC hpubs
                        have hZ := hZn
                        clear hZn
                        (try dsimp only)
                        refine hK.out _ _ ?_ (fun hHeld => ?_)
                        focus ((try dsimp only); exact HS7.out _ hZ)
                        clear hK K
                        try simp only [Act.put, List.getElem_toArray, List.getElem_cons_zero, List.getElem_cons_succ, List.setIfInBounds_toArray, List.set_cons_zero, List.set_cons_succ]
                        refine wpAnyH_take (i := 8) (v := ?_) rfl (by kernel_rfl) (by kernel_rfl) (by kernel_rfl) (fun _ _ _ h => h) (Or.inl ⟨by rfl, ?_⟩) (by assumption) ?_
                        rotate_left
                        focus (intro _ hSw; (try dsimp only at hSw); go_simp; try (with_reducible rfl))
                        try simp only [Act.put, List.getElem_toArray, List.getElem_cons_zero, List.getElem_cons_succ, List.setIfInBounds_toArray, List.set_cons_zero, List.set_cons_succ]
                        refine wpAnyH_take (i := 9) (v := ?_) rfl (by kernel_rfl) (by kernel_rfl) (by kernel_rfl) (fun _ _ _ h => h) (Or.inl ⟨by rfl, ?_⟩) (by assumption) ?_
                        rotate_left
                        focus (intro _ hSw; (try dsimp only at hSw); go_simp; try (with_reducible rfl))
                        try simp only [Act.put, List.getElem_toArray, List.getElem_cons_zero, List.getElem_cons_succ, List.setIfInBounds_toArray, List.set_cons_zero, List.set_cons_succ]
                        refine wpAnyH_take (i := 10) (v := ?_) rfl (by kernel_rfl) (by kernel_rfl) (by kernel_rfl) (fun _ _ _ h => h) (Or.inl ⟨by rfl, ?_⟩) (by assumption) ?_
                        rotate_left
                        focus (intro _ hSw; (try dsimp only at hSw); go_simp; try (with_reducible rfl))
                        try simp only [Act.put, List.getElem_toArray, List.getElem_cons_zero, List.getElem_cons_succ, List.setIfInBounds_toArray, List.set_cons_zero, List.set_cons_succ]
                        refine wpAnyH_ready (rs := [12]) (by kernel_rfl) (by simp) ?_
                        refine AllReadyH.cons rfl (fun K hK => ?_) ?_
                        ·
                          rw [if_pos (by rfl)]
                          refine wp_store_row _ _ _ rfl _ #[sv A.1.ent, .slice co A.1.tups.length cc, .slice eo A.1.notes.length ec] rfl rfl _ _ bgN (by kernel_rfl) (by rfl) (by kernel_rfl) ?_
                          try go_simp
                          refine hK.out _ _ ?_ (fun hHeld => ?_)
                          focus ((try dsimp only); exact HS7.out _ (Below.setRow hZ fN _))
                          clear hK K
                          try simp only [Act.put, List.getElem_toArray, List.getElem_cons_zero, List.getElem_cons_succ, List.setIfInBounds_toArray, List.set_cons_zero, List.set_cons_succ]
                          obtain ⟨c10, hc10⟩ : ∃ z, z = World.setRow c9 gN #[sv A.1.ent, .slice co A.1.tups.length cc, .slice eo A.1.notes.length ec] := ⟨_, rfl⟩
                          have hZf : Below z0.heap.size z0 c10 := by rw [hc10]; exact Below.setRow hZ fN _
                          have bF : Blk c10 gN 25 #[sv A.1.ent, .slice co A.1.tups.length cc, .slice eo A.1.notes.length ec] := by rw [hc10]; exact Blk.row bgN _
                          have HKF := Lib.hid (show RTups c10 (.slice co A.1.tups.length cc) A.1.tups ∧ RStrs c10 (.slice eo A.1.notes.length ec) A.1.notes from by rw [hc10]; exact ⟨RRow.rowT HK2.out.1 hOf.1, RRow.rowS HK2.out.2 hOf.2⟩)
                          rw [← hc10] at hHeld ⊢
                          clear hc10 hZ bgN HK2 hOf fN
                          obtain ⟨wf, hwf⟩ : ∃ z, z = c10 := ⟨_, rfl⟩
                          subst hwf
                          refine wpAnyH_take (i := 13) (v := ?_) rfl (by kernel_rfl) (by kernel_rfl) (by kernel_rfl) (fun _ _ _ h => h) (Or.inl ⟨by rfl, ?_⟩) (by assumption) ?_
                          rotate_left
                          focus (intro _ hSw; (try dsimp only at hSw); go_simp; try (with_reducible rfl))
                          try simp only [Act.put, List.getElem_toArray, List.getElem_cons_zero, List.getElem_cons_succ, List.setIfInBounds_toArray, List.set_cons_zero, List.set_cons_succ]
                          refine wpAnyH_done (by kernel_rfl) ?_ _
                          have hZ := hZf
                          clear hZf
                          have hBF := HBz.out.trans (hZ.mono HBz.out.size)
                          have h3F := HB3z.out.trans (hZ.mono HB3z.out.size)
                          have hmF := HM.out.below hBF
                          obtain ⟨p0, p1, p2⟩ := blk_f3T (Blk.call HBA.out h3F)
                          obtain ⟨q0, q1, q2⟩ := blk_f3T bF
                          have hsd := fun wx va vb hx hy => sameDoc_c va vb A.1 A.1 wx hx hy
                          rw [sameDoc_self] at hsd
                          have HSD := Lib.hid hsd
                          have HD1 := Lib.hid (show RDoc _ (.agg #[sv A.1.ent, .slice ao A.1.tups.length ac, .slice bo A.1.notes.length bc]) A.1 from ⟨_, _, rfl, HJ.out.1.below h3F (Nat.le_refl _), RRow.below HJ.out.2 h3F (Nat.le_refl _)⟩)
                          have HD2 := Lib.hid (show RDoc _ (.agg #[sv A.1.ent, .slice co A.1.tups.length cc, .slice eo A.1.notes.length ec]) A.1 from ⟨_, _, rfl, HKF.out.1, HKF.out.2⟩)
                          clear hsd bF hHeld
                          go_wp2_with (first | (go_at_call 9; refine (HSD.out _ _ _ HD1.out HD2.out).mono ?_; rintro e w17 ⟨rfl, hC7⟩; have hm7 := hmF.below hC7) | (go_at_call 8; refine (HAW.out _ hm7).mono ?_; rintro e w18 ⟨rfl, hC8⟩))
                          go_ret
                          exact ⟨rfl, (hBF.trans (hC7.mono hBF.size)).trans (hC8.mono (Nat.le_trans hBF.size hC7.size))⟩
                        exact AllReadyH.nil
                      exact AllReadyH.nil
                    exact AllReadyH.nil
                  refine AllReadyH.cons rfl (fun K hK => ?_) ?_
                  ·
                    obtain ⟨gN, hgN⟩ : ∃ g, g = c3.heap.size := ⟨_, rfl⟩
                    obtain ⟨c11, hc11⟩ : ∃ z, z = c3.alloc (.cells #[.string ⟨#[]⟩, .slice none 0 0, .slice none 0 0] 25) := ⟨_, rfl⟩
                    have hZn : Below z0.heap.size z0 c11 := by rw [hc11]; exact hZ.alloc hZ.size _
                    have bgNn : Blk c11 gN 25 #[.string ⟨#[]⟩, .slice none 0 0, .slice none 0 0] := by rw [hc11, hgN]; exact Blk.new _ _ _
                    have bg5n : Blk c11 g5 27 #[.int .i64 (X + 1), .string ⟨#[]⟩, .string ⟨#[]⟩, .int .i64 0, .string E, .slice tuo q.doc.tups.length tc, .slice noo q.doc.notes.length nc] := by rw [hc11]; exact Blk.alloc bg5 _
                    have hRn : c11.ownsRow z0.heap.size 27 7 v3 L.length xs := by rw [hc11]; exact World.ownsRow.alloc hR _
                    have egN : some gN ≠ (Value.ownBlock v3) := fun e => by have := (World.ownsRow.lt hR _ e.symm).2; omega
                    have fN : z0.heap.size ≤ gN := by rw [hgN]; exact hZ.size
                    go_simp
                    refine hK.out _ _ ?_ (fun hHeld => ?_)
                    focus ((try dsimp only); first | exact HS7.out _ hZn | (rw [← hc11]; exact HS7.out _ hZn))
                    clear hK K
                    try simp only [Act.put, List.getElem_toArray, List.getElem_cons_zero, List.getElem_cons_succ, List.setIfInBounds_toArray, List.set_cons_zero, List.set_cons_succ]
                    rw [← hc11] at hHeld ⊢
                    try simp only [← hgN]
                    clear hZ
                    have hZ := hZn
                    clear hZn
                    clear hR
                    have hR := hRn
                    clear hRn
                    clear bg5
                    have bg5 := bg5n
                    clear bg5n
                    have bgN := bgNn
                    clear bgNn
                    clear hc11 hgN
                    refine wpAnyH_ready (rs := [6]) (by kernel_rfl) (by simp) ?_
                    refine AllReadyH.cons rfl (fun K hK => ?_) ?_
                    ·
                      refine op_appG (base := z0.heap.size) (v := v3) (n := L.length) (xs := xs) (news := (#[.int .i64 (X + 1), .string ⟨#[]⟩, .string ⟨#[]⟩, .int .i64 0, .string E, .slice tuo q.doc.tups.length tc, .slice noo q.doc.notes.length nc] : Array Value).toList) (ad := ⟨g5, 0, none⟩) (m := 1) (c := 1) rfl Tryd.underlying31 infoPub rfl (by decide) rfl rfl hR (by decide) rfl (fun j u hj => by rw [add_cell]; have := boxedCell bg5 (0 + j); rw [this]; simpa using hj) (by intro u hu; simp at hu; rcases hu with rfl | rfl | rfl | rfl | rfl | rfl | rfl <;> rfl) (by decide) (by omega) hZ.size (fun v6 c12 h2 h3 h4 => ?_)
                      have hZn := hZ.grown h3 hZ.size (fun k hk => (World.ownsRow.lt hR k hk).1)
                      have hRn := h2
                      have bg5n := blk_grownO bg5 h3 eg5
                      have eg5n : some g5 ≠ Value.ownBlock v6 := fun e => by
                        rcases h4 with h4 | h4
                        · exact eg5 (e.trans h4)
                        · rw [h4] at e; injection e with e; have := Blk.lt bg5; omega
                      have bgNn := blk_grownO bgN h3 egN
                      have egNn : some gN ≠ Value.ownBlock v6 := fun e => by
                        rcases h4 with h4 | h4
                        · exact egN (e.trans h4)
                        · rw [h4] at e; injection e with e; have := Blk.lt bgN; omega
                      clear hZ hR h2
                      have hZ := hZn
                      have hR := hRn
                      clear hZn hRn h3 h4
                      clear bg5 eg5
                      have bg5 := bg5n
                      have eg5 := eg5n
                      clear bg5n eg5n
                      clear bgN egN
                      have bgN := bgNn
                      have egN := egNn
                      clear bgNn egNn
                      refine hK.out _ _ ?_ (fun hHeld => ?_)
                      focus ((try dsimp only); exact HS7.out _ hZ)
                      clear hK K
                      try simp only [Act.put, List.getElem_toArray, List.getElem_cons_zero, List.getElem_cons_succ, List.setIfInBounds_toArray, List.set_cons_zero, List.set_cons_succ]
                      refine wpAnyH_ready (rs := [7]) (by kernel_rfl) (by simp) ?_
                      refine AllReadyH.cons rfl (fun K hK => ?_) ?_
                      ·
                        have hpubs : RPubs c12 v6 (L ++ [⟨X + 1, q.doc⟩]) := RPubs.of_rows (xs := xs ++ (#[.int .i64 (X + 1), .string ⟨#[]⟩, .string ⟨#[]⟩, .int .i64 0, .string E, .slice tuo q.doc.tups.length tc, .slice noo q.doc.notes.length nc] : Array Value).toList) (by rw [List.length_append]; exact RRow.of_own hR) (PubRows.snoc (HXP.out.below (HBz.out.trans (hZ.mono HBz.out.size)) (Nat.le_refl _)) ⟨⟨#[]⟩, ⟨#[]⟩, 0, _, _, by rw [HSE.out], HKT.out.1.below (HBz.out.trans (hZ.mono HBz.out.size)) (Nat.le_refl _), RRow.below HKT.out.2 (HBz.out.trans (hZ.mono HBz.out.size)) (Nat.le_refl _)⟩)
                        go_simp
                        go_at_call 7
                        refine (HC3.out _ (HM.out.below (HBz.out.trans (hZ.mono HBz.out.size))) _ hpubs).mono ?_
                        rintro e c13 ⟨u1, u2, rfl, k1, k2, fr1, fr2, hC⟩
                        have HK2 := Lib.hid (And.intro k1 k2)
                        obtain ⟨co, cc, rfl, hcc⟩ := k1.cap
                        obtain ⟨eo, ec, rfl, hec⟩ := k2.cap
                        have hZn := hZ.trans (hC.mono hZ.size)
                        have bgNn := Blk.call bgN hC
                        have hOf : Offs gN (.slice co A.1.tups.length cc) A.1.tups ∧ Offs gN (.slice eo A.1.notes.length ec) A.1.notes := ⟨Offs.fresh fr1 (Blk.lt bgN), Offs.fresh fr2 (Blk.lt bgN)⟩
                        clear bgN egN
                        have bgN := bgNn
                        clear bgNn
                        clear hZ hR bg5 eg5 k1 k2 fr1 fr2 hC hpubs
                        have hZ := hZn
                        clear hZn
                        (try dsimp only)
                        refine hK.out _ _ ?_ (fun hHeld => ?_)
                        focus ((try dsimp only); exact HS7.out _ hZ)
                        clear hK K
                        try simp only [Act.put, List.getElem_toArray, List.getElem_cons_zero, List.getElem_cons_succ, List.setIfInBounds_toArray, List.set_cons_zero, List.set_cons_succ]
                        refine wpAnyH_take (i := 8) (v := ?_) rfl (by kernel_rfl) (by kernel_rfl) (by kernel_rfl) (fun _ _ _ h => h) (Or.inl ⟨by rfl, ?_⟩) (by assumption) ?_
                        rotate_left
                        focus (intro _ hSw; (try dsimp only at hSw); go_simp; try (with_reducible rfl))
                        try simp only [Act.put, List.getElem_toArray, List.getElem_cons_zero, List.getElem_cons_succ, List.setIfInBounds_toArray, List.set_cons_zero, List.set_cons_succ]
                        refine wpAnyH_take (i := 9) (v := ?_) rfl (by kernel_rfl) (by kernel_rfl) (by kernel_rfl) (fun _ _ _ h => h) (Or.inl ⟨by rfl, ?_⟩) (by assumption) ?_
                        rotate_left
                        focus (intro _ hSw; (try dsimp only at hSw); go_simp; try (with_reducible rfl))
                        try simp only [Act.put, List.getElem_toArray, List.getElem_cons_zero, List.getElem_cons_succ, List.setIfInBounds_toArray, List.set_cons_zero, List.set_cons_succ]
                        refine wpAnyH_take (i := 10) (v := ?_) rfl (by kernel_rfl) (by kernel_rfl) (by kernel_rfl) (fun _ _ _ h => h) (Or.inl ⟨by rfl, ?_⟩) (by assumption) ?_
                        rotate_left
                        focus (intro _ hSw; (try dsimp only at hSw); go_simp; try (with_reducible rfl))
                        try simp only [Act.put, List.getElem_toArray, List.getElem_cons_zero, List.getElem_cons_succ, List.setIfInBounds_toArray, List.set_cons_zero, List.set_cons_succ]
                        refine wpAnyH_ready (rs := [12]) (by kernel_rfl) (by simp) ?_
                        refine AllReadyH.cons rfl (fun K hK => ?_) ?_
                        ·
                          rw [if_pos (by rfl)]
                          refine wp_store_row _ _ _ rfl _ #[sv A.1.ent, .slice co A.1.tups.length cc, .slice eo A.1.notes.length ec] rfl rfl _ _ bgN (by kernel_rfl) (by rfl) (by kernel_rfl) ?_
                          try go_simp
                          refine hK.out _ _ ?_ (fun hHeld => ?_)
                          focus ((try dsimp only); exact HS7.out _ (Below.setRow hZ fN _))
                          clear hK K
                          try simp only [Act.put, List.getElem_toArray, List.getElem_cons_zero, List.getElem_cons_succ, List.setIfInBounds_toArray, List.set_cons_zero, List.set_cons_succ]
                          obtain ⟨c14, hc14⟩ : ∃ z, z = World.setRow c13 gN #[sv A.1.ent, .slice co A.1.tups.length cc, .slice eo A.1.notes.length ec] := ⟨_, rfl⟩
                          have hZf : Below z0.heap.size z0 c14 := by rw [hc14]; exact Below.setRow hZ fN _
                          have bF : Blk c14 gN 25 #[sv A.1.ent, .slice co A.1.tups.length cc, .slice eo A.1.notes.length ec] := by rw [hc14]; exact Blk.row bgN _
                          have HKF := Lib.hid (show RTups c14 (.slice co A.1.tups.length cc) A.1.tups ∧ RStrs c14 (.slice eo A.1.notes.length ec) A.1.notes from by rw [hc14]; exact ⟨RRow.rowT HK2.out.1 hOf.1, RRow.rowS HK2.out.2 hOf.2⟩)
                          rw [← hc14] at hHeld ⊢
                          clear hc14 hZ bgN HK2 hOf fN
                          obtain ⟨wf, hwf⟩ : ∃ z, z = c14 := ⟨_, rfl⟩
                          subst hwf
                          refine wpAnyH_take (i := 13) (v := ?_) rfl (by kernel_rfl) (by kernel_rfl) (by kernel_rfl) (fun _ _ _ h => h) (Or.inl ⟨by rfl, ?_⟩) (by assumption) ?_
                          rotate_left
                          focus (intro _ hSw; (try dsimp only at hSw); go_simp; try (with_reducible rfl))
                          try simp only [Act.put, List.getElem_toArray, List.getElem_cons_zero, List.getElem_cons_succ, List.setIfInBounds_toArray, List.set_cons_zero, List.set_cons_succ]
                          refine wpAnyH_done (by kernel_rfl) ?_ _
                          have hZ := hZf
                          clear hZf
                          have hBF := HBz.out.trans (hZ.mono HBz.out.size)
                          have h3F := HB3z.out.trans (hZ.mono HB3z.out.size)
                          have hmF := HM.out.below hBF
                          obtain ⟨p0, p1, p2⟩ := blk_f3T (Blk.call HBA.out h3F)
                          obtain ⟨q0, q1, q2⟩ := blk_f3T bF
                          have hsd := fun wx va vb hx hy => sameDoc_c va vb A.1 A.1 wx hx hy
                          rw [sameDoc_self] at hsd
                          have HSD := Lib.hid hsd
                          have HD1 := Lib.hid (show RDoc _ (.agg #[sv A.1.ent, .slice ao A.1.tups.length ac, .slice bo A.1.notes.length bc]) A.1 from ⟨_, _, rfl, HJ.out.1.below h3F (Nat.le_refl _), RRow.below HJ.out.2 h3F (Nat.le_refl _)⟩)
                          have HD2 := Lib.hid (show RDoc _ (.agg #[sv A.1.ent, .slice co A.1.tups.length cc, .slice eo A.1.notes.length ec]) A.1 from ⟨_, _, rfl, HKF.out.1, HKF.out.2⟩)
                          clear hsd bF hHeld
                          go_wp2_with (first | (go_at_call 9; refine (HSD.out _ _ _ HD1.out HD2.out).mono ?_; rintro e w17 ⟨rfl, hC7⟩; have hm7 := hmF.below hC7) | (go_at_call 8; refine (HAW.out _ hm7).mono ?_; rintro e w18 ⟨rfl, hC8⟩))
                          go_ret
                          exact ⟨rfl, (hBF.trans (hC7.mono hBF.size)).trans (hC8.mono (Nat.le_trans hBF.size hC7.size))⟩
                        exact AllReadyH.nil
                      exact AllReadyH.nil
                    exact AllReadyH.nil
                  exact AllReadyH.nil
                refine AllReadyH.cons rfl (fun K hK => ?_) ?_
                ·
                  obtain ⟨gN, hgN⟩ : ∃ g, g = c2.heap.size := ⟨_, rfl⟩
                  obtain ⟨c15, hc15⟩ : ∃ z, z = c2.alloc (.cells #[.string ⟨#[]⟩, .slice none 0 0, .slice none 0 0] 25) := ⟨_, rfl⟩
                  have hZn : Below z0.heap.size z0 c15 := by rw [hc15]; exact hZ.alloc hZ.size _
                  have bgNn : Blk c15 gN 25 #[.string ⟨#[]⟩, .slice none 0 0, .slice none 0 0] := by rw [hc15, hgN]; exact Blk.new _ _ _
                  have hRn : c15.ownsRow z0.heap.size 27 7 v3 L.length xs := by rw [hc15]; exact World.ownsRow.alloc hR _
                  have egN : some gN ≠ (Value.ownBlock v3) := fun e => by have := (World.ownsRow.lt hR _ e.symm).2; omega
                  have fN : z0.heap.size ≤ gN := by rw [hgN]; exact hZ.size
                  go_simp
                  refine hK.out _ _ ?_ (fun hHeld => ?_)
                  focus ((try dsimp only); first | exact HS7.out _ hZn | (rw [← hc15]; exact HS7.out _ hZn))
                  clear hK K
                  try simp only [Act.put, List.getElem_toArray, List.getElem_cons_zero, List.getElem_cons_succ, List.setIfInBounds_toArray, List.set_cons_zero, List.set_cons_succ]
                  rw [← hc15] at hHeld ⊢
                  try simp only [← hgN]
                  clear hZ
                  have hZ := hZn
                  clear hZn
                  clear hR
                  have hR := hRn
                  clear hRn
                  have bgN := bgNn
                  clear bgNn
                  clear hc15 hgN
                  refine wpAnyH_ready (rs := [5]) (by kernel_rfl) (by simp) ?_
                  refine AllReadyH.cons rfl (fun K hK => ?_) ?_
                  ·
                    obtain ⟨g5, hg5⟩ : ∃ g, g = c15.heap.size := ⟨_, rfl⟩
                    obtain ⟨c16, hc16⟩ : ∃ z, z = c15.alloc (.cells #[.int .i64 (X + 1), .string ⟨#[]⟩, .string ⟨#[]⟩, .int .i64 0, .string E, .slice tuo q.doc.tups.length tc, .slice noo q.doc.notes.length nc] 27) := ⟨_, rfl⟩
                    have hZn : Below z0.heap.size z0 c16 := by rw [hc16]; exact hZ.alloc hZ.size _
                    have bg5n : Blk c16 g5 27 #[.int .i64 (X + 1), .string ⟨#[]⟩, .string ⟨#[]⟩, .int .i64 0, .string E, .slice tuo q.doc.tups.length tc, .slice noo q.doc.notes.length nc] := by rw [hc16, hg5]; exact Blk.new _ _ _
                    have bgNn : Blk c16 gN 25 #[.string ⟨#[]⟩, .slice none 0 0, .slice none 0 0] := by rw [hc16]; exact Blk.alloc bgN _
                    have hRn : c16.ownsRow z0.heap.size 27 7 v3 L.length xs := by rw [hc16]; exact World.ownsRow.alloc hR _
                    have eg5 : some g5 ≠ (Value.ownBlock v3) := fun e => by have := (World.ownsRow.lt hR _ e.symm).2; omega
                    go_simp
                    refine hK.out _ _ ?_ (fun hHeld => ?_)
                    focus ((try dsimp only); first | exact HS7.out _ hZn | (rw [← hc16]; exact HS7.out _ hZn))
                    clear hK K
                    try simp only [Act.put, List.getElem_toArray, List.getElem_cons_zero, List.getElem_cons_succ, List.setIfInBounds_toArray, List.set_cons_zero, List.set_cons_succ]
                    rw [← hc16] at hHeld ⊢
                    try simp only [← hg5]
                    clear hZ
                    have hZ := hZn
                    clear hZn
                    clear hR
                    have hR := hRn
                    clear hRn
                    have bg5 := bg5n
                    clear bg5n
                    clear bgN
                    have bgN := bgNn
                    clear bgNn
                    clear hc16 hg5
                    refine wpAnyH_ready (rs := [6]) (by kernel_rfl) (by simp) ?_
                    refine AllReadyH.cons rfl (fun K hK => ?_) ?_
                    ·
                      refine op_appG (base := z0.heap.size) (v := v3) (n := L.length) (xs := xs) (news := (#[.int .i64 (X + 1), .string ⟨#[]⟩, .string ⟨#[]⟩, .int .i64 0, .string E, .slice tuo q.doc.tups.length tc, .slice noo q.doc.notes.length nc] : Array Value).toList) (ad := ⟨g5, 0, none⟩) (m := 1) (c := 1) rfl Tryd.underlying31 infoPub rfl (by decide) rfl rfl hR (by decide) rfl (fun j u hj => by rw [add_cell]; have := boxedCell bg5 (0 + j); rw [this]; simpa using hj) (by intro u hu; simp at hu; rcases hu with rfl | rfl | rfl | rfl | rfl | rfl | rfl <;> rfl) (by decide) (by omega) hZ.size (fun v6 c17 h2 h3 h4 => ?_)
                      have hZn := hZ.grown h3 hZ.size (fun k hk => (World.ownsRow.lt hR k hk).1)
                      have hRn := h2
                      have bg5n := blk_grownO bg5 h3 eg5
                      have eg5n : some g5 ≠ Value.ownBlock v6 := fun e => by
                        rcases h4 with h4 | h4
                        · exact eg5 (e.trans h4)
                        · rw [h4] at e; injection e with e; have := Blk.lt bg5; omega
                      have bgNn := blk_grownO bgN h3 egN
                      have egNn : some gN ≠ Value.ownBlock v6 := fun e => by
                        rcases h4 with h4 | h4
                        · exact egN (e.trans h4)
                        · rw [h4] at e; injection e with e; have := Blk.lt bgN; omega
                      clear hZ hR h2
                      have hZ := hZn
                      have hR := hRn
                      clear hZn hRn h3 h4
                      clear bg5 eg5
                      have bg5 := bg5n
                      have eg5 := eg5n
                      clear bg5n eg5n
                      clear bgN egN
                      have bgN := bgNn
                      have egN := egNn
                      clear bgNn egNn
                      refine hK.out _ _ ?_ (fun hHeld => ?_)
                      focus ((try dsimp only); exact HS7.out _ hZ)
                      clear hK K
                      try simp only [Act.put, List.getElem_toArray, List.getElem_cons_zero, List.getElem_cons_succ, List.setIfInBounds_toArray, List.set_cons_zero, List.set_cons_succ]
                      refine wpAnyH_ready (rs := [7]) (by kernel_rfl) (by simp) ?_
                      refine AllReadyH.cons rfl (fun K hK => ?_) ?_
                      ·
                        have hpubs : RPubs c17 v6 (L ++ [⟨X + 1, q.doc⟩]) := RPubs.of_rows (xs := xs ++ (#[.int .i64 (X + 1), .string ⟨#[]⟩, .string ⟨#[]⟩, .int .i64 0, .string E, .slice tuo q.doc.tups.length tc, .slice noo q.doc.notes.length nc] : Array Value).toList) (by rw [List.length_append]; exact RRow.of_own hR) (PubRows.snoc (HXP.out.below (HBz.out.trans (hZ.mono HBz.out.size)) (Nat.le_refl _)) ⟨⟨#[]⟩, ⟨#[]⟩, 0, _, _, by rw [HSE.out], HKT.out.1.below (HBz.out.trans (hZ.mono HBz.out.size)) (Nat.le_refl _), RRow.below HKT.out.2 (HBz.out.trans (hZ.mono HBz.out.size)) (Nat.le_refl _)⟩)
                        go_simp
                        go_at_call 7
                        refine (HC3.out _ (HM.out.below (HBz.out.trans (hZ.mono HBz.out.size))) _ hpubs).mono ?_
                        rintro e c18 ⟨u1, u2, rfl, k1, k2, fr1, fr2, hC⟩
                        have HK2 := Lib.hid (And.intro k1 k2)
                        obtain ⟨co, cc, rfl, hcc⟩ := k1.cap
                        obtain ⟨eo, ec, rfl, hec⟩ := k2.cap
                        have hZn := hZ.trans (hC.mono hZ.size)
                        have bgNn := Blk.call bgN hC
                        have hOf : Offs gN (.slice co A.1.tups.length cc) A.1.tups ∧ Offs gN (.slice eo A.1.notes.length ec) A.1.notes := ⟨Offs.fresh fr1 (Blk.lt bgN), Offs.fresh fr2 (Blk.lt bgN)⟩
                        clear bgN egN
                        have bgN := bgNn
                        clear bgNn
                        clear hZ hR bg5 eg5 k1 k2 fr1 fr2 hC hpubs
                        have hZ := hZn
                        clear hZn
                        (try dsimp only)
                        refine hK.out _ _ ?_ (fun hHeld => ?_)
                        focus ((try dsimp only); exact HS7.out _ hZ)
                        clear hK K
                        try simp only [Act.put, List.getElem_toArray, List.getElem_cons_zero, List.getElem_cons_succ, List.setIfInBounds_toArray, List.set_cons_zero, List.set_cons_succ]
                        refine wpAnyH_take (i := 8) (v := ?_) rfl (by kernel_rfl) (by kernel_rfl) (by kernel_rfl) (fun _ _ _ h => h) (Or.inl ⟨by rfl, ?_⟩) (by assumption) ?_
                        rotate_left
                        focus (intro _ hSw; (try dsimp only at hSw); go_simp; try (with_reducible rfl))
                        try simp only [Act.put, List.getElem_toArray, List.getElem_cons_zero, List.getElem_cons_succ, List.setIfInBounds_toArray, List.set_cons_zero, List.set_cons_succ]
                        refine wpAnyH_take (i := 9) (v := ?_) rfl (by kernel_rfl) (by kernel_rfl) (by kernel_rfl) (fun _ _ _ h => h) (Or.inl ⟨by rfl, ?_⟩) (by assumption) ?_
                        rotate_left
                        focus (intro _ hSw; (try dsimp only at hSw); go_simp; try (with_reducible rfl))
                        try simp only [Act.put, List.getElem_toArray, List.getElem_cons_zero, List.getElem_cons_succ, List.setIfInBounds_toArray, List.set_cons_zero, List.set_cons_succ]
                        refine wpAnyH_take (i := 10) (v := ?_) rfl (by kernel_rfl) (by kernel_rfl) (by kernel_rfl) (fun _ _ _ h => h) (Or.inl ⟨by rfl, ?_⟩) (by assumption) ?_
                        rotate_left
                        focus (intro _ hSw; (try dsimp only at hSw); go_simp; try (with_reducible rfl))
                        try simp only [Act.put, List.getElem_toArray, List.getElem_cons_zero, List.getElem_cons_succ, List.setIfInBounds_toArray, List.set_cons_zero, List.set_cons_succ]
                        refine wpAnyH_ready (rs := [12]) (by kernel_rfl) (by simp) ?_
                        refine AllReadyH.cons rfl (fun K hK => ?_) ?_
                        ·
                          rw [if_pos (by rfl)]
                          refine wp_store_row _ _ _ rfl _ #[sv A.1.ent, .slice co A.1.tups.length cc, .slice eo A.1.notes.length ec] rfl rfl _ _ bgN (by kernel_rfl) (by rfl) (by kernel_rfl) ?_
                          try go_simp
                          refine hK.out _ _ ?_ (fun hHeld => ?_)
                          focus ((try dsimp only); exact HS7.out _ (Below.setRow hZ fN _))
                          clear hK K
                          try simp only [Act.put, List.getElem_toArray, List.getElem_cons_zero, List.getElem_cons_succ, List.setIfInBounds_toArray, List.set_cons_zero, List.set_cons_succ]
                          obtain ⟨c19, hc19⟩ : ∃ z, z = World.setRow c18 gN #[sv A.1.ent, .slice co A.1.tups.length cc, .slice eo A.1.notes.length ec] := ⟨_, rfl⟩
                          have hZf : Below z0.heap.size z0 c19 := by rw [hc19]; exact Below.setRow hZ fN _
                          have bF : Blk c19 gN 25 #[sv A.1.ent, .slice co A.1.tups.length cc, .slice eo A.1.notes.length ec] := by rw [hc19]; exact Blk.row bgN _
                          have HKF := Lib.hid (show RTups c19 (.slice co A.1.tups.length cc) A.1.tups ∧ RStrs c19 (.slice eo A.1.notes.length ec) A.1.notes from by rw [hc19]; exact ⟨RRow.rowT HK2.out.1 hOf.1, RRow.rowS HK2.out.2 hOf.2⟩)
                          rw [← hc19] at hHeld ⊢
                          clear hc19 hZ bgN HK2 hOf fN
                          obtain ⟨wf, hwf⟩ : ∃ z, z = c19 := ⟨_, rfl⟩
                          subst hwf
                          refine wpAnyH_take (i := 13) (v := ?_) rfl (by kernel_rfl) (by kernel_rfl) (by kernel_rfl) (fun _ _ _ h => h) (Or.inl ⟨by rfl, ?_⟩) (by assumption) ?_
                          rotate_left
                          focus (intro _ hSw; (try dsimp only at hSw); go_simp; try (with_reducible rfl))
                          try simp only [Act.put, List.getElem_toArray, List.getElem_cons_zero, List.getElem_cons_succ, List.setIfInBounds_toArray, List.set_cons_zero, List.set_cons_succ]
                          refine wpAnyH_done (by kernel_rfl) ?_ _
                          have hZ := hZf
                          clear hZf
                          have hBF := HBz.out.trans (hZ.mono HBz.out.size)
                          have h3F := HB3z.out.trans (hZ.mono HB3z.out.size)
                          have hmF := HM.out.below hBF
                          obtain ⟨p0, p1, p2⟩ := blk_f3T (Blk.call HBA.out h3F)
                          obtain ⟨q0, q1, q2⟩ := blk_f3T bF
                          have hsd := fun wx va vb hx hy => sameDoc_c va vb A.1 A.1 wx hx hy
                          rw [sameDoc_self] at hsd
                          have HSD := Lib.hid hsd
                          have HD1 := Lib.hid (show RDoc _ (.agg #[sv A.1.ent, .slice ao A.1.tups.length ac, .slice bo A.1.notes.length bc]) A.1 from ⟨_, _, rfl, HJ.out.1.below h3F (Nat.le_refl _), RRow.below HJ.out.2 h3F (Nat.le_refl _)⟩)
                          have HD2 := Lib.hid (show RDoc _ (.agg #[sv A.1.ent, .slice co A.1.tups.length cc, .slice eo A.1.notes.length ec]) A.1 from ⟨_, _, rfl, HKF.out.1, HKF.out.2⟩)
                          clear hsd bF hHeld
                          go_wp2_with (first | (go_at_call 9; refine (HSD.out _ _ _ HD1.out HD2.out).mono ?_; rintro e w17 ⟨rfl, hC7⟩; have hm7 := hmF.below hC7) | (go_at_call 8; refine (HAW.out _ hm7).mono ?_; rintro e w18 ⟨rfl, hC8⟩))
                          go_ret
                          exact ⟨rfl, (hBF.trans (hC7.mono hBF.size)).trans (hC8.mono (Nat.le_trans hBF.size hC7.size))⟩
                        exact AllReadyH.nil
                      exact AllReadyH.nil
                    exact AllReadyH.nil
                  exact AllReadyH.nil
                exact AllReadyH.nil
              refine AllReadyH.cons rfl (fun K hK => ?_) ?_
              ·
                obtain ⟨g5, hg5⟩ : ∃ g, g = c1.heap.size := ⟨_, rfl⟩
                obtain ⟨c20, hc20⟩ : ∃ z, z = c1.alloc (.cells #[.int .i64 (X + 1), .string ⟨#[]⟩, .string ⟨#[]⟩, .int .i64 0, .string E, .slice tuo q.doc.tups.length tc, .slice noo q.doc.notes.length nc] 27) := ⟨_, rfl⟩
                have hZn : Below z0.heap.size z0 c20 := by rw [hc20]; exact hZ.alloc hZ.size _
                have bg5n : Blk c20 g5 27 #[.int .i64 (X + 1), .string ⟨#[]⟩, .string ⟨#[]⟩, .int .i64 0, .string E, .slice tuo q.doc.tups.length tc, .slice noo q.doc.notes.length nc] := by rw [hc20, hg5]; exact Blk.new _ _ _
                have hRn : c20.ownsRow z0.heap.size 27 7 (.slice (some ⟨g1, 0, none⟩) 0 0) 0 [] := by rw [hc20]; exact World.ownsRow.alloc hR _
                have eg5 : some g5 ≠ (Value.ownBlock (.slice (some ⟨g1, 0, none⟩) 0 0)) := fun e => by have := (World.ownsRow.lt hR _ e.symm).2; omega
                go_simp
                refine hK.out _ _ ?_ (fun hHeld => ?_)
                focus ((try dsimp only); first | exact HS7.out _ hZn | (rw [← hc20]; exact HS7.out _ hZn))
                clear hK K
                try simp only [Act.put, List.getElem_toArray, List.getElem_cons_zero, List.getElem_cons_succ, List.setIfInBounds_toArray, List.set_cons_zero, List.set_cons_succ]
                rw [← hc20] at hHeld ⊢
                try simp only [← hg5]
                clear hZ
                have hZ := hZn
                clear hZn
                clear hR
                have hR := hRn
                clear hRn
                have bg5 := bg5n
                clear bg5n
                clear hc20 hg5
                refine wpAnyH_ready (rs := [3, 11]) (by kernel_rfl) (by simp) ?_
                refine AllReadyH.cons rfl (fun K hK => ?_) ?_
                ·
                  refine op_appG (base := z0.heap.size) (v := (.slice (some ⟨g1, 0, none⟩) 0 0)) (n := 0) (xs := []) (news := xs) (ad := ⟨b, off, none⟩) (m := L.length) (c := pc) rfl Tryd.underlying31 infoPub rfl (by decide) rfl rfl hR (by omega) HXL.out (HXC.out _ (HBz.out.trans (hZ.mono HBz.out.size))) HX1.out (by decide) (by omega) hZ.size (fun v3 c21 h2 h3 h4 => ?_)
                  have hZn := hZ.grown h3 hZ.size (fun k hk => (World.ownsRow.lt hR k hk).1)
                  have hRn : c21.ownsRow z0.heap.size 27 7 v3 L.length xs := by simpa using h2
                  have bg5n := blk_grownO bg5 h3 eg5
                  have eg5n : some g5 ≠ Value.ownBlock v3 := fun e => by
                    rcases h4 with h4 | h4
                    · exact eg5 (e.trans h4)
                    · rw [h4] at e; injection e with e; have := Blk.lt bg5; omega
                  clear hZ hR h2
                  have hZ := hZn
                  have hR := hRn
                  clear hZn hRn h3 h4
                  clear bg5 eg5
                  have bg5 := bg5n
                  have eg5 := eg5n
                  clear bg5n eg5n
                  refine hK.out _ _ ?_ (fun hHeld => ?_)
                  focus ((try dsimp only); exact HS7.out _ hZ)
                  clear hK K
                  try simp only [Act.put, List.getElem_toArray, List.getElem_cons_zero, List.getElem_cons_succ, List.setIfInBounds_toArray, List.set_cons_zero, List.set_cons_succ]
                  refine wpAnyH_ready (rs := [6, 11]) (by kernel_rfl) (by simp) ?_
                  refine AllReadyH.cons rfl (fun K hK => ?_) ?_
                  ·
                    refine op_appG (base := z0.heap.size) (v := v3) (n := L.length) (xs := xs) (news := (#[.int .i64 (X + 1), .string ⟨#[]⟩, .string ⟨#[]⟩, .int .i64 0, .string E, .slice tuo q.doc.tups.length tc, .slice noo q.doc.notes.length nc] : Array Value).toList) (ad := ⟨g5, 0, none⟩) (m := 1) (c := 1) rfl Tryd.underlying31 infoPub rfl (by decide) rfl rfl hR (by decide) rfl (fun j u hj => by rw [add_cell]; have := boxedCell bg5 (0 + j); rw [this]; simpa using hj) (by intro u hu; simp at hu; rcases hu with rfl | rfl | rfl | rfl | rfl | rfl | rfl <;> rfl) (by decide) (by omega) hZ.size (fun v6 c22 h2 h3 h4 => ?_)
                    have hZn := hZ.grown h3 hZ.size (fun k hk => (World.ownsRow.lt hR k hk).1)
                    have hRn := h2
                    have bg5n := blk_grownO bg5 h3 eg5
                    have eg5n : some g5 ≠ Value.ownBlock v6 := fun e => by
                      rcases h4 with h4 | h4
                      · exact eg5 (e.trans h4)
                      · rw [h4] at e; injection e with e; have := Blk.lt bg5; omega
                    clear hZ hR h2
                    have hZ := hZn
                    have hR := hRn
                    clear hZn hRn h3 h4
                    clear bg5 eg5
                    have bg5 := bg5n
                    have eg5 := eg5n
                    clear bg5n eg5n
                    refine hK.out _ _ ?_ (fun hHeld => ?_)
                    focus ((try dsimp only); exact HS7.out _ hZ)
                    clear hK K
                    try simp only [Act.put, List.getElem_toArray, List.getElem_cons_zero, List.getElem_cons_succ, List.setIfInBounds_toArray, List.set_cons_zero, List.set_cons_succ]
                    refine wpAnyH_ready (rs := [7, 11]) (by kernel_rfl) (by simp) ?_
                    refine AllReadyH.cons rfl (fun K hK => ?_) ?_
                    ·
                      have hpubs : RPubs c22 v6 (L ++ [⟨X + 1, q.doc⟩]) := RPubs.of_rows (xs := xs ++ (#[.int .i64 (X + 1), .string ⟨#[]⟩, .string ⟨#[]⟩, .int .i64 0, .string E, .slice tuo q.doc.tups.length tc, .slice noo q.doc.notes.length nc] : Array Value).toList) (by rw [List.length_append]; exact RRow.of_own hR) (PubRows.snoc (HXP.out.below (HBz.out.trans (hZ.mono HBz.out.size)) (Nat.le_refl _)) ⟨⟨#[]⟩, ⟨#[]⟩, 0, _, _, by rw [HSE.out], HKT.out.1.below (HBz.out.trans (hZ.mono HBz.out.size)) (Nat.le_refl _), RRow.below HKT.out.2 (HBz.out.trans (hZ.mono HBz.out.size)) (Nat.le_refl _)⟩)
                      go_simp
                      go_at_call 7
                      refine (HC3.out _ (HM.out.below (HBz.out.trans (hZ.mono HBz.out.size))) _ hpubs).mono ?_
                      rintro e c23 ⟨u1, u2, rfl, k1, k2, fr1, fr2, hC⟩
                      have HK2 := Lib.hid (And.intro k1 k2)
                      obtain ⟨co, cc, rfl, hcc⟩ := k1.cap
                      obtain ⟨eo, ec, rfl, hec⟩ := k2.cap
                      have hZn := hZ.trans (hC.mono hZ.size)
                      clear hZ hR bg5 eg5 k1 k2 fr1 fr2 hC hpubs
                      have hZ := hZn
                      clear hZn
                      (try dsimp only)
                      refine hK.out _ _ ?_ (fun hHeld => ?_)
                      focus ((try dsimp only); exact HS7.out _ hZ)
                      clear hK K
                      try simp only [Act.put, List.getElem_toArray, List.getElem_cons_zero, List.getElem_cons_succ, List.setIfInBounds_toArray, List.set_cons_zero, List.set_cons_succ]
                      refine wpAnyH_take (i := 8) (v := ?_) rfl (by kernel_rfl) (by kernel_rfl) (by kernel_rfl) (fun _ _ _ h => h) (Or.inl ⟨by rfl, ?_⟩) (by assumption) ?_
                      rotate_left
                      focus (intro _ hSw; (try dsimp only at hSw); go_simp; try (with_reducible rfl))
                      try simp only [Act.put, List.getElem_toArray, List.getElem_cons_zero, List.getElem_cons_succ, List.setIfInBounds_toArray, List.set_cons_zero, List.set_cons_succ]
                      refine wpAnyH_take (i := 9) (v := ?_) rfl (by kernel_rfl) (by kernel_rfl) (by kernel_rfl) (fun _ _ _ h => h) (Or.inl ⟨by rfl, ?_⟩) (by assumption) ?_
                      rotate_left
                      focus (intro _ hSw; (try dsimp only at hSw); go_simp; try (with_reducible rfl))
                      try simp only [Act.put, List.getElem_toArray, List.getElem_cons_zero, List.getElem_cons_succ, List.setIfInBounds_toArray, List.set_cons_zero, List.set_cons_succ]
                      refine wpAnyH_take (i := 10) (v := ?_) rfl (by kernel_rfl) (by kernel_rfl) (by kernel_rfl) (fun _ _ _ h => h) (Or.inl ⟨by rfl, ?_⟩) (by assumption) ?_
                      rotate_left
                      focus (intro _ hSw; (try dsimp only at hSw); go_simp; try (with_reducible rfl))
                      try simp only [Act.put, List.getElem_toArray, List.getElem_cons_zero, List.getElem_cons_succ, List.setIfInBounds_toArray, List.set_cons_zero, List.set_cons_succ]
                      refine wpAnyH_ready (rs := [11]) (by kernel_rfl) (by simp) ?_
                      refine AllReadyH.cons rfl (fun K hK => ?_) ?_
                      ·
                        obtain ⟨gN, hgN⟩ : ∃ g, g = c23.heap.size := ⟨_, rfl⟩
                        obtain ⟨c24, hc24⟩ : ∃ z, z = c23.alloc (.cells #[.string ⟨#[]⟩, .slice none 0 0, .slice none 0 0] 25) := ⟨_, rfl⟩
                        have hZn : Below z0.heap.size z0 c24 := by rw [hc24]; exact hZ.alloc hZ.size _
                        have bgNn : Blk c24 gN 25 #[.string ⟨#[]⟩, .slice none 0 0, .slice none 0 0] := by rw [hc24, hgN]; exact Blk.new _ _ _
                        have HK2n := Lib.hid (show RTups c24 (.slice co A.1.tups.length cc) A.1.tups ∧ RStrs c24 (.slice eo A.1.notes.length ec) A.1.notes from by rw [hc24]; exact ⟨HK2.out.1.below ((Below.refl c23.heap.size c23).alloc (Nat.le_refl _) _) (Nat.le_refl _), RRow.below HK2.out.2 ((Below.refl c23.heap.size c23).alloc (Nat.le_refl _) _) (Nat.le_refl _)⟩)
                        have hOf : Offs gN (.slice co A.1.tups.length cc) A.1.tups ∧ Offs gN (.slice eo A.1.notes.length ec) A.1.notes := ⟨RRow.offT HK2.out.1 (Nat.le_of_eq hgN.symm), RRow.offS HK2.out.2 (Nat.le_of_eq hgN.symm)⟩
                        have fN : z0.heap.size ≤ gN := by rw [hgN]; exact hZ.size
                        go_simp
                        refine hK.out _ _ ?_ (fun hHeld => ?_)
                        focus ((try dsimp only); first | exact HS7.out _ hZn | (rw [← hc24]; exact HS7.out _ hZn))
                        clear hK K
                        try simp only [Act.put, List.getElem_toArray, List.getElem_cons_zero, List.getElem_cons_succ, List.setIfInBounds_toArray, List.set_cons_zero, List.set_cons_succ]
                        rw [← hc24] at hHeld ⊢
                        try simp only [← hgN]
                        clear hZ
                        have hZ := hZn
                        clear hZn
                        have bgN := bgNn
                        clear bgNn
                        clear HK2
                        have HK2 := HK2n
                        clear HK2n
                        clear hc24 hgN
                        refine wpAnyH_ready (rs := [12]) (by kernel_rfl) (by simp) ?_
                        refine AllReadyH.cons rfl (fun K hK => ?_) ?_
                        ·
                          rw [if_pos (by rfl)]
                          refine wp_store_row _ _ _ rfl _ #[sv A.1.ent, .slice co A.1.tups.length cc, .slice eo A.1.notes.length ec] rfl rfl _ _ bgN (by kernel_rfl) (by rfl) (by kernel_rfl) ?_
                          try go_simp
                          refine hK.out _ _ ?_ (fun hHeld => ?_)
                          focus ((try dsimp only); exact HS7.out _ (Below.setRow hZ fN _))
                          clear hK K
                          try simp only [Act.put, List.getElem_toArray, List.getElem_cons_zero, List.getElem_cons_succ, List.setIfInBounds_toArray, List.set_cons_zero, List.set_cons_succ]
                          obtain ⟨c25, hc25⟩ : ∃ z, z = World.setRow c24 gN #[sv A.1.ent, .slice co A.1.tups.length cc, .slice eo A.1.notes.length ec] := ⟨_, rfl⟩
                          have hZf : Below z0.heap.size z0 c25 := by rw [hc25]; exact Below.setRow hZ fN _
                          have bF : Blk c25 gN 25 #[sv A.1.ent, .slice co A.1.tups.length cc, .slice eo A.1.notes.length ec] := by rw [hc25]; exact Blk.row bgN _
                          have HKF := Lib.hid (show RTups c25 (.slice co A.1.tups.length cc) A.1.tups ∧ RStrs c25 (.slice eo A.1.notes.length ec) A.1.notes from by rw [hc25]; exact ⟨RRow.rowT HK2.out.1 hOf.1, RRow.rowS HK2.out.2 hOf.2⟩)
                          rw [← hc25] at hHeld ⊢
                          clear hc25 hZ bgN HK2 hOf fN
                          obtain ⟨wf, hwf⟩ : ∃ z, z = c25 := ⟨_, rfl⟩
                          subst hwf
                          refine wpAnyH_take (i := 13) (v := ?_) rfl (by kernel_rfl) (by kernel_rfl) (by kernel_rfl) (fun _ _ _ h => h) (Or.inl ⟨by rfl, ?_⟩) (by assumption) ?_
                          rotate_left
                          focus (intro _ hSw; (try dsimp only at hSw); go_simp; try (with_reducible rfl))
                          try simp only [Act.put, List.getElem_toArray, List.getElem_cons_zero, List.getElem_cons_succ, List.setIfInBounds_toArray, List.set_cons_zero, List.set_cons_succ]
                          refine wpAnyH_done (by kernel_rfl) ?_ _
                          have hZ := hZf
                          clear hZf
                          have hBF := HBz.out.trans (hZ.mono HBz.out.size)
                          have h3F := HB3z.out.trans (hZ.mono HB3z.out.size)
                          have hmF := HM.out.below hBF
                          obtain ⟨p0, p1, p2⟩ := blk_f3T (Blk.call HBA.out h3F)
                          obtain ⟨q0, q1, q2⟩ := blk_f3T bF
                          have hsd := fun wx va vb hx hy => sameDoc_c va vb A.1 A.1 wx hx hy
                          rw [sameDoc_self] at hsd
                          have HSD := Lib.hid hsd
                          have HD1 := Lib.hid (show RDoc _ (.agg #[sv A.1.ent, .slice ao A.1.tups.length ac, .slice bo A.1.notes.length bc]) A.1 from ⟨_, _, rfl, HJ.out.1.below h3F (Nat.le_refl _), RRow.below HJ.out.2 h3F (Nat.le_refl _)⟩)
                          have HD2 := Lib.hid (show RDoc _ (.agg #[sv A.1.ent, .slice co A.1.tups.length cc, .slice eo A.1.notes.length ec]) A.1 from ⟨_, _, rfl, HKF.out.1, HKF.out.2⟩)
                          clear hsd bF hHeld
                          go_wp2_with (first | (go_at_call 9; refine (HSD.out _ _ _ HD1.out HD2.out).mono ?_; rintro e w17 ⟨rfl, hC7⟩; have hm7 := hmF.below hC7) | (go_at_call 8; refine (HAW.out _ hm7).mono ?_; rintro e w18 ⟨rfl, hC8⟩))
                          go_ret
                          exact ⟨rfl, (hBF.trans (hC7.mono hBF.size)).trans (hC8.mono (Nat.le_trans hBF.size hC7.size))⟩
                        exact AllReadyH.nil
                      exact AllReadyH.nil
                    refine AllReadyH.cons rfl (fun K hK => ?_) ?_
                    ·
                      obtain ⟨gN, hgN⟩ : ∃ g, g = c22.heap.size := ⟨_, rfl⟩
                      obtain ⟨c26, hc26⟩ : ∃ z, z = c22.alloc (.cells #[.string ⟨#[]⟩, .slice none 0 0, .slice none 0 0] 25) := ⟨_, rfl⟩
                      have hZn : Below z0.heap.size z0 c26 := by rw [hc26]; exact hZ.alloc hZ.size _
                      have bgNn : Blk c26 gN 25 #[.string ⟨#[]⟩, .slice none 0 0, .slice none 0 0] := by rw [hc26, hgN]; exact Blk.new _ _ _
                      have bg5n : Blk c26 g5 27 #[.int .i64 (X + 1), .string ⟨#[]⟩, .string ⟨#[]⟩, .int .i64 0, .string E, .slice tuo q.doc.tups.length tc, .slice noo q.doc.notes.length nc] := by rw [hc26]; exact Blk.alloc bg5 _
                      have hRn : c26.ownsRow z0.heap.size 27 7 v6 (L.length + 1) (xs ++ (#[.int .i64 (X + 1), .string ⟨#[]⟩, .string ⟨#[]⟩, .int .i64 0, .string E, .slice tuo q.doc.tups.length tc, .slice noo q.doc.notes.length nc] : Array Value).toList) := by rw [hc26]; exact World.ownsRow.alloc hR _
                      have egN : some gN ≠ (Value.ownBlock v6) := fun e => by have := (World.ownsRow.lt hR _ e.symm).2; omega
                      have fN : z0.heap.size ≤ gN := by rw [hgN]; exact hZ.size
                      go_simp
                      refine hK.out _ _ ?_ (fun hHeld => ?_)
                      focus ((try dsimp only); first | exact HS7.out _ hZn | (rw [← hc26]; exact HS7.out _ hZn))
                      clear hK K
                      try simp only [Act.put, List.getElem_toArray, List.getElem_cons_zero, List.getElem_cons_succ, List.setIfInBounds_toArray, List.set_cons_zero, List.set_cons_succ]
                      rw [← hc26] at hHeld ⊢
                      try simp only [← hgN]
                      clear hZ
                      have hZ := hZn
                      clear hZn
                      clear hR
                      have hR := hRn
                      clear hRn
                      clear bg5
                      have bg5 := bg5n
                      clear bg5n
                      have bgN := bgNn
                      clear bgNn
                      clear hc26 hgN
                      refine wpAnyH_ready (rs := [7]) (by kernel_rfl) (by simp) ?_
                      refine AllReadyH.cons rfl (fun K hK => ?_) ?_
                      ·
                        have hpubs : RPubs c26 v6 (L ++ [⟨X + 1, q.doc⟩]) := RPubs.of_rows (xs := xs ++ (#[.int .i64 (X + 1), .string ⟨#[]⟩, .string ⟨#[]⟩, .int .i64 0, .string E, .slice tuo q.doc.tups.length tc, .slice noo q.doc.notes.length nc] : Array Value).toList) (by rw [List.length_append]; exact RRow.of_own hR) (PubRows.snoc (HXP.out.below (HBz.out.trans (hZ.mono HBz.out.size)) (Nat.le_refl _)) ⟨⟨#[]⟩, ⟨#[]⟩, 0, _, _, by rw [HSE.out], HKT.out.1.below (HBz.out.trans (hZ.mono HBz.out.size)) (Nat.le_refl _), RRow.below HKT.out.2 (HBz.out.trans (hZ.mono HBz.out.size)) (Nat.le_refl _)⟩)
                        go_simp
                        go_at_call 7
                        refine (HC3.out _ (HM.out.below (HBz.out.trans (hZ.mono HBz.out.size))) _ hpubs).mono ?_
                        rintro e c27 ⟨u1, u2, rfl, k1, k2, fr1, fr2, hC⟩
                        have HK2 := Lib.hid (And.intro k1 k2)
                        obtain ⟨co, cc, rfl, hcc⟩ := k1.cap
                        obtain ⟨eo, ec, rfl, hec⟩ := k2.cap
                        have hZn := hZ.trans (hC.mono hZ.size)
                        have bgNn := Blk.call bgN hC
                        have hOf : Offs gN (.slice co A.1.tups.length cc) A.1.tups ∧ Offs gN (.slice eo A.1.notes.length ec) A.1.notes := ⟨Offs.fresh fr1 (Blk.lt bgN), Offs.fresh fr2 (Blk.lt bgN)⟩
                        clear bgN egN
                        have bgN := bgNn
                        clear bgNn
                        clear hZ hR bg5 eg5 k1 k2 fr1 fr2 hC hpubs
                        have hZ := hZn
                        clear hZn
                        (try dsimp only)
                        refine hK.out _ _ ?_ (fun hHeld => ?_)
                        focus ((try dsimp only); exact HS7.out _ hZ)
                        clear hK K
                        try simp only [Act.put, List.getElem_toArray, List.getElem_cons_zero, List.getElem_cons_succ, List.setIfInBounds_toArray, List.set_cons_zero, List.set_cons_succ]
                        refine wpAnyH_take (i := 8) (v := ?_) rfl (by kernel_rfl) (by kernel_rfl) (by kernel_rfl) (fun _ _ _ h => h) (Or.inl ⟨by rfl, ?_⟩) (by assumption) ?_
                        rotate_left
                        focus (intro _ hSw; (try dsimp only at hSw); go_simp; try (with_reducible rfl))
                        try simp only [Act.put, List.getElem_toArray, List.getElem_cons_zero, List.getElem_cons_succ, List.setIfInBounds_toArray, List.set_cons_zero, List.set_cons_succ]
                        refine wpAnyH_take (i := 9) (v := ?_) rfl (by kernel_rfl) (by kernel_rfl) (by kernel_rfl) (fun _ _ _ h => h) (Or.inl ⟨by rfl, ?_⟩) (by assumption) ?_
                        rotate_left
                        focus (intro _ hSw; (try dsimp only at hSw); go_simp; try (with_reducible rfl))
                        try simp only [Act.put, List.getElem_toArray, List.getElem_cons_zero, List.getElem_cons_succ, List.setIfInBounds_toArray, List.set_cons_zero, List.set_cons_succ]
                        refine wpAnyH_take (i := 10) (v := ?_) rfl (by kernel_rfl) (by kernel_rfl) (by kernel_rfl) (fun _ _ _ h => h) (Or.inl ⟨by rfl, ?_⟩) (by assumption) ?_
                        rotate_left
                        focus (intro _ hSw; (try dsimp only at hSw); go_simp; try (with_reducible rfl))
                        try simp only [Act.put, List.getElem_toArray, List.getElem_cons_zero, List.getElem_cons_succ, List.setIfInBounds_toArray, List.set_cons_zero, List.set_cons_succ]
                        refine wpAnyH_ready (rs := [12]) (by kernel_rfl) (by simp) ?_
                        refine AllReadyH.cons rfl (fun K hK => ?_) ?_
                        ·
                          rw [if_pos (by rfl)]
                          refine wp_store_row _ _ _ rfl _ #[sv A.1.ent, .slice co A.1.tups.length cc, .slice eo A.1.notes.length ec] rfl rfl _ _ bgN (by kernel_rfl) (by rfl) (by kernel_rfl) ?_
                          try go_simp
                          refine hK.out _ _ ?_ (fun hHeld => ?_)
                          focus ((try dsimp only); exact HS7.out _ (Below.setRow hZ fN _))
                          clear hK K
                          try simp only [Act.put, List.getElem_toArray, List.getElem_cons_zero, List.getElem_cons_succ, List.setIfInBounds_toArray, List.set_cons_zero, List.set_cons_succ]
                          obtain ⟨c28, hc28⟩ : ∃ z, z = World.setRow c27 gN #[sv A.1.ent, .slice co A.1.tups.length cc, .slice eo A.1.notes.length ec] := ⟨_, rfl⟩
                          have hZf : Below z0.heap.size z0 c28 := by rw [hc28]; exact Below.setRow hZ fN _
                          have bF : Blk c28 gN 25 #[sv A.1.ent, .slice co A.1.tups.length cc, .slice eo A.1.notes.length ec] := by rw [hc28]; exact Blk.row bgN _
                          have HKF := Lib.hid (show RTups c28 (.slice co A.1.tups.length cc) A.1.tups ∧ RStrs c28 (.slice eo A.1.notes.length ec) A.1.notes from by rw [hc28]; exact ⟨RRow.rowT HK2.out.1 hOf.1, RRow.rowS HK2.out.2 hOf.2⟩)
                          rw [← hc28] at hHeld ⊢
                          clear hc28 hZ bgN HK2 hOf fN
                          obtain ⟨wf, hwf⟩ : ∃ z, z = c28 := ⟨_, rfl⟩
                          subst hwf
                          refine wpAnyH_take (i := 13) (v := ?_) rfl (by kernel_rfl) (by kernel_rfl) (by kernel_rfl) (fun _ _ _ h => h) (Or.inl ⟨by rfl, ?_⟩) (by assumption) ?_
                          rotate_left
                          focus (intro _ hSw; (try dsimp only at hSw); go_simp; try (with_reducible rfl))
                          try simp only [Act.put, List.getElem_toArray, List.getElem_cons_zero, List.getElem_cons_succ, List.setIfInBounds_toArray, List.set_cons_zero, List.set_cons_succ]
                          refine wpAnyH_done (by kernel_rfl) ?_ _
                          have hZ := hZf
                          clear hZf
                          have hBF := HBz.out.trans (hZ.mono HBz.out.size)
                          have h3F := HB3z.out.trans (hZ.mono HB3z.out.size)
                          have hmF := HM.out.below hBF
                          obtain ⟨p0, p1, p2⟩ := blk_f3T (Blk.call HBA.out h3F)
                          obtain ⟨q0, q1, q2⟩ := blk_f3T bF
                          have hsd := fun wx va vb hx hy => sameDoc_c va vb A.1 A.1 wx hx hy
                          rw [sameDoc_self] at hsd
                          have HSD := Lib.hid hsd
                          have HD1 := Lib.hid (show RDoc _ (.agg #[sv A.1.ent, .slice ao A.1.tups.length ac, .slice bo A.1.notes.length bc]) A.1 from ⟨_, _, rfl, HJ.out.1.below h3F (Nat.le_refl _), RRow.below HJ.out.2 h3F (Nat.le_refl _)⟩)
                          have HD2 := Lib.hid (show RDoc _ (.agg #[sv A.1.ent, .slice co A.1.tups.length cc, .slice eo A.1.notes.length ec]) A.1 from ⟨_, _, rfl, HKF.out.1, HKF.out.2⟩)
                          clear hsd bF hHeld
                          go_wp2_with (first | (go_at_call 9; refine (HSD.out _ _ _ HD1.out HD2.out).mono ?_; rintro e w17 ⟨rfl, hC7⟩; have hm7 := hmF.below hC7) | (go_at_call 8; refine (HAW.out _ hm7).mono ?_; rintro e w18 ⟨rfl, hC8⟩))
                          go_ret
                          exact ⟨rfl, (hBF.trans (hC7.mono hBF.size)).trans (hC8.mono (Nat.le_trans hBF.size hC7.size))⟩
                        exact AllReadyH.nil
                      exact AllReadyH.nil
                    exact AllReadyH.nil
                  refine AllReadyH.cons rfl (fun K hK => ?_) ?_
                  ·
                    obtain ⟨gN, hgN⟩ : ∃ g, g = c21.heap.size := ⟨_, rfl⟩
                    obtain ⟨c29, hc29⟩ : ∃ z, z = c21.alloc (.cells #[.string ⟨#[]⟩, .slice none 0 0, .slice none 0 0] 25) := ⟨_, rfl⟩
                    have hZn : Below z0.heap.size z0 c29 := by rw [hc29]; exact hZ.alloc hZ.size _
                    have bgNn : Blk c29 gN 25 #[.string ⟨#[]⟩, .slice none 0 0, .slice none 0 0] := by rw [hc29, hgN]; exact Blk.new _ _ _
                    have bg5n : Blk c29 g5 27 #[.int .i64 (X + 1), .string ⟨#[]⟩, .string ⟨#[]⟩, .int .i64 0, .string E, .slice tuo q.doc.tups.length tc, .slice noo q.doc.notes.length nc] := by rw [hc29]; exact Blk.alloc bg5 _
                    have hRn : c29.ownsRow z0.heap.size 27 7 v3 L.length xs := by rw [hc29]; exact World.ownsRow.alloc hR _
                    have egN : some gN ≠ (Value.ownBlock v3) := fun e => by have := (World.ownsRow.lt hR _ e.symm).2; omega
                    have fN : z0.heap.size ≤ gN := by rw [hgN]; exact hZ.size
                    go_simp
                    refine hK.out _ _ ?_ (fun hHeld => ?_)
                    focus ((try dsimp only); first | exact HS7.out _ hZn | (rw [← hc29]; exact HS7.out _ hZn))
                    clear hK K
                    try simp only [Act.put, List.getElem_toArray, List.getElem_cons_zero, List.getElem_cons_succ, List.setIfInBounds_toArray, List.set_cons_zero, List.set_cons_succ]
                    rw [← hc29] at hHeld ⊢
                    try simp only [← hgN]
                    clear hZ
                    have hZ := hZn
                    clear hZn
                    clear hR
                    have hR := hRn
                    clear hRn
                    clear bg5
                    have bg5 := bg5n
                    clear bg5n
                    have bgN := bgNn
                    clear bgNn
                    clear hc29 hgN
                    refine wpAnyH_ready (rs := [6]) (by kernel_rfl) (by simp) ?_
                    refine AllReadyH.cons rfl (fun K hK => ?_) ?_
                    ·
                      refine op_appG (base := z0.heap.size) (v := v3) (n := L.length) (xs := xs) (news := (#[.int .i64 (X + 1), .string ⟨#[]⟩, .string ⟨#[]⟩, .int .i64 0, .string E, .slice tuo q.doc.tups.length tc, .slice noo q.doc.notes.length nc] : Array Value).toList) (ad := ⟨g5, 0, none⟩) (m := 1) (c := 1) rfl Tryd.underlying31 infoPub rfl (by decide) rfl rfl hR (by decide) rfl (fun j u hj => by rw [add_cell]; have := boxedCell bg5 (0 + j); rw [this]; simpa using hj) (by intro u hu; simp at hu; rcases hu with rfl | rfl | rfl | rfl | rfl | rfl | rfl <;> rfl) (by decide) (by omega) hZ.size (fun v6 c30 h2 h3 h4 => ?_)
                      have hZn := hZ.grown h3 hZ.size (fun k hk => (World.ownsRow.lt hR k hk).1)
                      have hRn := h2
                      have bg5n := blk_grownO bg5 h3 eg5
                      have eg5n : some g5 ≠ Value.ownBlock v6 := fun e => by
                        rcases h4 with h4 | h4
                        · exact eg5 (e.trans h4)
                        · rw [h4] at e; injection e with e; have := Blk.lt bg5; omega
                      have bgNn := blk_grownO bgN h3 egN
                      have egNn : some gN ≠ Value.ownBlock v6 := fun e => by
                        rcases h4 with h4 | h4
                        · exact egN (e.trans h4)
                        · rw [h4] at e; injection e with e; have := Blk.lt bgN; omega
                      clear hZ hR h2
                      have hZ := hZn
                      have hR := hRn
                      clear hZn hRn h3 h4
                      clear bg5 eg5
                      have bg5 := bg5n
                      have eg5 := eg5n
                      clear bg5n eg5n
                      clear bgN egN
                      have bgN := bgNn
                      have egN := egNn
                      clear bgNn egNn
                      refine hK.out _ _ ?_ (fun hHeld => ?_)
                      focus ((try dsimp only); exact HS7.out _ hZ)
                      clear hK K
                      try simp only [Act.put, List.getElem_toArray, List.getElem_cons_zero, List.getElem_cons_succ, List.setIfInBounds_toArray, List.set_cons_zero, List.set_cons_succ]
                      refine wpAnyH_ready (rs := [7]) (by kernel_rfl) (by simp) ?_
                      refine AllReadyH.cons rfl (fun K hK => ?_) ?_
                      ·
                        have hpubs : RPubs c30 v6 (L ++ [⟨X + 1, q.doc⟩]) := RPubs.of_rows (xs := xs ++ (#[.int .i64 (X + 1), .string ⟨#[]⟩, .string ⟨#[]⟩, .int .i64 0, .string E, .slice tuo q.doc.tups.length tc, .slice noo q.doc.notes.length nc] : Array Value).toList) (by rw [List.length_append]; exact RRow.of_own hR) (PubRows.snoc (HXP.out.below (HBz.out.trans (hZ.mono HBz.out.size)) (Nat.le_refl _)) ⟨⟨#[]⟩, ⟨#[]⟩, 0, _, _, by rw [HSE.out], HKT.out.1.below (HBz.out.trans (hZ.mono HBz.out.size)) (Nat.le_refl _), RRow.below HKT.out.2 (HBz.out.trans (hZ.mono HBz.out.size)) (Nat.le_refl _)⟩)
                        go_simp
                        go_at_call 7
                        refine (HC3.out _ (HM.out.below (HBz.out.trans (hZ.mono HBz.out.size))) _ hpubs).mono ?_
                        rintro e c31 ⟨u1, u2, rfl, k1, k2, fr1, fr2, hC⟩
                        have HK2 := Lib.hid (And.intro k1 k2)
                        obtain ⟨co, cc, rfl, hcc⟩ := k1.cap
                        obtain ⟨eo, ec, rfl, hec⟩ := k2.cap
                        have hZn := hZ.trans (hC.mono hZ.size)
                        have bgNn := Blk.call bgN hC
                        have hOf : Offs gN (.slice co A.1.tups.length cc) A.1.tups ∧ Offs gN (.slice eo A.1.notes.length ec) A.1.notes := ⟨Offs.fresh fr1 (Blk.lt bgN), Offs.fresh fr2 (Blk.lt bgN)⟩
                        clear bgN egN
                        have bgN := bgNn
                        clear bgNn
                        clear hZ hR bg5 eg5 k1 k2 fr1 fr2 hC hpubs
                        have hZ := hZn
                        clear hZn
                        (try dsimp only)
                        refine hK.out _ _ ?_ (fun hHeld => ?_)
                        focus ((try dsimp only); exact HS7.out _ hZ)
                        clear hK K
                        try simp only [Act.put, List.getElem_toArray, List.getElem_cons_zero, List.getElem_cons_succ, List.setIfInBounds_toArray, List.set_cons_zero, List.set_cons_succ]
                        refine wpAnyH_take (i := 8) (v := ?_) rfl (by kernel_rfl) (by kernel_rfl) (by kernel_rfl) (fun _ _ _ h => h) (Or.inl ⟨by rfl, ?_⟩) (by assumption) ?_
                        rotate_left
                        focus (intro _ hSw; (try dsimp only at hSw); go_simp; try (with_reducible rfl))
                        try simp only [Act.put, List.getElem_toArray, List.getElem_cons_zero, List.getElem_cons_succ, List.setIfInBounds_toArray, List.set_cons_zero, List.set_cons_succ]
                        refine wpAnyH_take (i := 9) (v := ?_) rfl (by kernel_rfl) (by kernel_rfl) (by kernel_rfl) (fun _ _ _ h => h) (Or.inl ⟨by rfl, ?_⟩) (by assumption) ?_
                        rotate_left
                        focus (intro _ hSw; (try dsimp only at hSw); go_simp; try (with_reducible rfl))
                        try simp only [Act.put, List.getElem_toArray, List.getElem_cons_zero, List.getElem_cons_succ, List.setIfInBounds_toArray, List.set_cons_zero, List.set_cons_succ]
                        refine wpAnyH_take (i := 10) (v := ?_) rfl (by kernel_rfl) (by kernel_rfl) (by kernel_rfl) (fun _ _ _ h => h) (Or.inl ⟨by rfl, ?_⟩) (by assumption) ?_
                        rotate_left
                        focus (intro _ hSw; (try dsimp only at hSw); go_simp; try (with_reducible rfl))
                        try simp only [Act.put, List.getElem_toArray, List.getElem_cons_zero, List.getElem_cons_succ, List.setIfInBounds_toArray, List.set_cons_zero, List.set_cons_succ]
                        refine wpAnyH_ready (rs := [12]) (by kernel_rfl) (by simp) ?_
                        refine AllReadyH.cons rfl (fun K hK => ?_) ?_
                        ·
                          rw [if_pos (by rfl)]
                          refine wp_store_row _ _ _ rfl _ #[sv A.1.ent, .slice co A.1.tups.length cc, .slice eo A.1.notes.length ec] rfl rfl _ _ bgN (by kernel_rfl) (by rfl) (by kernel_rfl) ?_
                          try go_simp
                          refine hK.out _ _ ?_ (fun hHeld => ?_)
                          focus ((try dsimp only); exact HS7.out _ (Below.setRow hZ fN _))
                          clear hK K
                          try simp only [Act.put, List.getElem_toArray, List.getElem_cons_zero, List.getElem_cons_succ, List.setIfInBounds_toArray, List.set_cons_zero, List.set_cons_succ]
                          obtain ⟨c32, hc32⟩ : ∃ z, z = World.setRow c31 gN #[sv A.1.ent, .slice co A.1.tups.length cc, .slice eo A.1.notes.length ec] := ⟨_, rfl⟩
                          have hZf : Below z0.heap.size z0 c32 := by rw [hc32]; exact Below.setRow hZ fN _
                          have bF : Blk c32 gN 25 #[sv A.1.ent, .slice co A.1.tups.length cc, .slice eo A.1.notes.length ec] := by rw [hc32]; exact Blk.row bgN _
                          have HKF := Lib.hid (show RTups c32 (.slice co A.1.tups.length cc) A.1.tups ∧ RStrs c32 (.slice eo A.1.notes.length ec) A.1.notes from by rw [hc32]; exact ⟨RRow.rowT HK2.out.1 hOf.1, RRow.rowS HK2.out.2 hOf.2⟩)
                          rw [← hc32] at hHeld ⊢
                          clear hc32 hZ bgN HK2 hOf fN
                          obtain ⟨wf, hwf⟩ : ∃ z, z = c32 := ⟨_, rfl⟩
                          subst hwf
                          refine wpAnyH_take (i := 13) (v := ?_) rfl (by kernel_rfl) (by kernel_rfl) (by kernel_rfl) (fun _ _ _ h => h) (Or.inl ⟨by rfl, ?_⟩) (by assumption) ?_
                          rotate_left
                          focus (intro _ hSw; (try dsimp only at hSw); go_simp; try (with_reducible rfl))
                          try simp only [Act.put, List.getElem_toArray, List.getElem_cons_zero, List.getElem_cons_succ, List.setIfInBounds_toArray, List.set_cons_zero, List.set_cons_succ]
                          refine wpAnyH_done (by kernel_rfl) ?_ _
                          have hZ := hZf
                          clear hZf
                          have hBF := HBz.out.trans (hZ.mono HBz.out.size)
                          have h3F := HB3z.out.trans (hZ.mono HB3z.out.size)
                          have hmF := HM.out.below hBF
                          obtain ⟨p0, p1, p2⟩ := blk_f3T (Blk.call HBA.out h3F)
                          obtain ⟨q0, q1, q2⟩ := blk_f3T bF
                          have hsd := fun wx va vb hx hy => sameDoc_c va vb A.1 A.1 wx hx hy
                          rw [sameDoc_self] at hsd
                          have HSD := Lib.hid hsd
                          have HD1 := Lib.hid (show RDoc _ (.agg #[sv A.1.ent, .slice ao A.1.tups.length ac, .slice bo A.1.notes.length bc]) A.1 from ⟨_, _, rfl, HJ.out.1.below h3F (Nat.le_refl _), RRow.below HJ.out.2 h3F (Nat.le_refl _)⟩)
                          have HD2 := Lib.hid (show RDoc _ (.agg #[sv A.1.ent, .slice co A.1.tups.length cc, .slice eo A.1.notes.length ec]) A.1 from ⟨_, _, rfl, HKF.out.1, HKF.out.2⟩)
                          clear hsd bF hHeld
                          go_wp2_with (first | (go_at_call 9; refine (HSD.out _ _ _ HD1.out HD2.out).mono ?_; rintro e w17 ⟨rfl, hC7⟩; have hm7 := hmF.below hC7) | (go_at_call 8; refine (HAW.out _ hm7).mono ?_; rintro e w18 ⟨rfl, hC8⟩))
                          go_ret
                          exact ⟨rfl, (hBF.trans (hC7.mono hBF.size)).trans (hC8.mono (Nat.le_trans hBF.size hC7.size))⟩
                        exact AllReadyH.nil
                      exact AllReadyH.nil
                    exact AllReadyH.nil
                  exact AllReadyH.nil
                refine AllReadyH.cons rfl (fun K hK => ?_) ?_
                ·
                  obtain ⟨gN, hgN⟩ : ∃ g, g = c20.heap.size := ⟨_, rfl⟩
                  obtain ⟨c33, hc33⟩ : ∃ z, z = c20.alloc (.cells #[.string ⟨#[]⟩, .slice none 0 0, .slice none 0 0] 25) := ⟨_, rfl⟩
                  have hZn : Below z0.heap.size z0 c33 := by rw [hc33]; exact hZ.alloc hZ.size _
                  have bgNn : Blk c33 gN 25 #[.string ⟨#[]⟩, .slice none 0 0, .slice none 0 0] := by rw [hc33, hgN]; exact Blk.new _ _ _
                  have bg5n : Blk c33 g5 27 #[.int .i64 (X + 1), .string ⟨#[]⟩, .string ⟨#[]⟩, .int .i64 0, .string E, .slice tuo q.doc.tups.length tc, .slice noo q.doc.notes.length nc] := by rw [hc33]; exact Blk.alloc bg5 _
                  have hRn : c33.ownsRow z0.heap.size 27 7 (.slice (some ⟨g1, 0, none⟩) 0 0) 0 [] := by rw [hc33]; exact World.ownsRow.alloc hR _
                  have egN : some gN ≠ (Value.ownBlock (.slice (some ⟨g1, 0, none⟩) 0 0)) := fun e => by have := (World.ownsRow.lt hR _ e.symm).2; omega
                  have fN : z0.heap.size ≤ gN := by rw [hgN]; exact hZ.size
                  go_simp
                  refine hK.out _ _ ?_ (fun hHeld => ?_)
                  focus ((try dsimp only); first | exact HS7.out _ hZn | (rw [← hc33]; exact HS7.out _ hZn))
                  clear hK K
                  try simp only [Act.put, List.getElem_toArray, List.getElem_cons_zero, List.getElem_cons_succ, List.setIfInBounds_toArray, List.set_cons_zero, List.set_cons_succ]
                  rw [← hc33] at hHeld ⊢
                  try simp only [← hgN]
                  clear hZ
                  have hZ := hZn
                  clear hZn
                  clear hR
                  have hR := hRn
                  clear hRn
                  clear bg5
                  have bg5 := bg5n
                  clear bg5n
                  have bgN := bgNn
                  clear bgNn
                  clear hc33 hgN
                  refine wpAnyH_ready (rs := [3]) (by kernel_rfl) (by simp) ?_
                  refine AllReadyH.cons rfl (fun K hK => ?_) ?_
                  ·
                    refine op_appG (base := z0.heap.size) (v := (.slice (some ⟨g1, 0, none⟩) 0 0)) (n := 0) (xs := []) (news := xs) (ad := ⟨b, off, none⟩) (m := L.length) (c := pc) rfl Tryd.underlying31 infoPub rfl (by decide) rfl rfl hR (by omega) HXL.out (HXC.out _ (HBz.out.trans (hZ.mono HBz.out.size))) HX1.out (by decide) (by omega) hZ.size (fun v3 c34 h2 h3 h4 => ?_)
                    have hZn := hZ.grown h3 hZ.size (fun k hk => (World.ownsRow.lt hR k hk).1)
                    have hRn : c34.ownsRow z0.heap.size 27 7 v3 L.length xs := by simpa using h2
                    have bg5n := blk_grownO bg5 h3 eg5
                    have eg5n : some g5 ≠ Value.ownBlock v3 := fun e => by
                      rcases h4 with h4 | h4
                      · exact eg5 (e.trans h4)
                      · rw [h4] at e; injection e with e; have := Blk.lt bg5; omega
                    have bgNn := blk_grownO bgN h3 egN
                    have egNn : some gN ≠ Value.ownBlock v3 := fun e => by
                      rcases h4 with h4 | h4
                      · exact egN (e.trans h4)
                      · rw [h4] at e; injection e with e; have := Blk.lt bgN; omega
                    clear hZ hR h2
                    have hZ := hZn
                    have hR := hRn
                    clear hZn hRn h3 h4
                    clear bg5 eg5
                    have bg5 := bg5n
                    have eg5 := eg5n
                    clear bg5n eg5n
                    clear bgN egN
                    have bgN := bgNn
                    have egN := egNn
                    clear bgNn egNn
                    refine hK.out _ _ ?_ (fun hHeld => ?_)
                    focus ((try dsimp only); exact HS7.out _ hZ)
                    clear hK K
                    try simp only [Act.put, List.getElem_toArray, List.getElem_cons_zero, List.getElem_cons_succ, List.setIfInBounds_toArray, List.set_cons_zero, List.set_cons_succ]
                    refine wpAnyH_ready (rs := [6]) (by kernel_rfl) (by simp) ?_
                    refine AllReadyH.cons rfl (fun K hK => ?_) ?_
                    ·
                      refine op_appG (base := z0.heap.size) (v := v3) (n := L.length) (xs := xs) (news := (#[.int .i64 (X + 1), .string ⟨#[]⟩, .string ⟨#[]⟩, .int .i64 0, .string E, .slice tuo q.doc.tups.length tc, .slice noo q.doc.notes.length nc] : Array Value).toList) (ad := ⟨g5, 0, none⟩) (m := 1) (c := 1) rfl Tryd.underlying31 infoPub rfl (by decide) rfl rfl hR (by decide) rfl (fun j u hj => by rw [add_cell]; have := boxedCell bg5 (0 + j); rw [this]; simpa using hj) (by intro u hu; simp at hu; rcases hu with rfl | rfl | rfl | rfl | rfl | rfl | rfl <;> rfl) (by decide) (by omega) hZ.size (fun v6 c35 h2 h3 h4 => ?_)
                      have hZn := hZ.grown h3 hZ.size (fun k hk => (World.ownsRow.lt hR k hk).1)
                      have hRn := h2
                      have bg5n := blk_grownO bg5 h3 eg5
                      have eg5n : some g5 ≠ Value.ownBlock v6 := fun e => by
                        rcases h4 with h4 | h4
                        · exact eg5 (e.trans h4)
                        · rw [h4] at e; injection e with e; have := Blk.lt bg5; omega
                      have bgNn := blk_grownO bgN h3 egN
                      have egNn : some gN ≠ Value.ownBlock v6 := fun e => by
                        rcases h4 with h4 | h4
                        · exact egN (e.trans h4)
                        · rw [h4] at e; injection e with e; have := Blk.lt bgN; omega
                      clear hZ hR h2
                      have hZ := hZn
                      have hR := hRn
                      clear hZn hRn h3 h4
                      clear bg5 eg5
                      have bg5 := bg5n
                      have eg5 := eg5n
                      clear bg5n eg5n
                      clear bgN egN
                      have bgN := bgNn
                      have egN := egNn
                      clear bgNn egNn
                      refine hK.out _ _ ?_ (fun hHeld => ?_)
                      focus ((try dsimp only); exact HS7.out _ hZ)
                      clear hK K
                      try simp only [Act.put, List.getElem_toArray, List.getElem_cons_zero, List.getElem_cons_succ, List.setIfInBounds_toArray, List.set_cons_zero, List.set_cons_succ]
                      refine wpAnyH_ready (rs := [7]) (by kernel_rfl) (by simp) ?_
                      refine AllReadyH.cons rfl (fun K hK => ?_) ?_
                      ·
                        have hpubs : RPubs c35 v6 (L ++ [⟨X + 1, q.doc⟩]) := RPubs.of_rows (xs := xs ++ (#[.int .i64 (X + 1), .string ⟨#[]⟩, .string ⟨#[]⟩, .int .i64 0, .string E, .slice tuo q.doc.tups.length tc, .slice noo q.doc.notes.length nc] : Array Value).toList) (by rw [List.length_append]; exact RRow.of_own hR) (PubRows.snoc (HXP.out.below (HBz.out.trans (hZ.mono HBz.out.size)) (Nat.le_refl _)) ⟨⟨#[]⟩, ⟨#[]⟩, 0, _, _, by rw [HSE.out], HKT.out.1.below (HBz.out.trans (hZ.mono HBz.out.size)) (Nat.le_refl _), RRow.below HKT.out.2 (HBz.out.trans (hZ.mono HBz.out.size)) (Nat.le_refl _)⟩)
                        go_simp
                        go_at_call 7
                        refine (HC3.out _ (HM.out.below (HBz.out.trans (hZ.mono HBz.out.size))) _ hpubs).mono ?_
                        rintro e c36 ⟨u1, u2, rfl, k1, k2, fr1, fr2, hC⟩
                        have HK2 := Lib.hid (And.intro k1 k2)
                        obtain ⟨co, cc, rfl, hcc⟩ := k1.cap
                        obtain ⟨eo, ec, rfl, hec⟩ := k2.cap
                        have hZn := hZ.trans (hC.mono hZ.size)
                        have bgNn := Blk.call bgN hC
                        have hOf : Offs gN (.slice co A.1.tups.length cc) A.1.tups ∧ Offs gN (.slice eo A.1.notes.length ec) A.1.notes := ⟨Offs.fresh fr1 (Blk.lt bgN), Offs.fresh fr2 (Blk.lt bgN)⟩
                        clear bgN egN
                        have bgN := bgNn
                        clear bgNn
                        clear hZ hR bg5 eg5 k1 k2 fr1 fr2 hC hpubs
                        have hZ := hZn
                        clear hZn
                        (try dsimp only)
                        refine hK.out _ _ ?_ (fun hHeld => ?_)
                        focus ((try dsimp only); exact HS7.out _ hZ)
                        clear hK K
                        try simp only [Act.put, List.getElem_toArray, List.getElem_cons_zero, List.getElem_cons_succ, List.setIfInBounds_toArray, List.set_cons_zero, List.set_cons_succ]
                        refine wpAnyH_take (i := 8) (v := ?_) rfl (by kernel_rfl) (by kernel_rfl) (by kernel_rfl) (fun _ _ _ h => h) (Or.inl ⟨by rfl, ?_⟩) (by assumption) ?_
                        rotate_left
                        focus (intro _ hSw; (try dsimp only at hSw); go_simp; try (with_reducible rfl))
                        try simp only [Act.put, List.getElem_toArray, List.getElem_cons_zero, List.getElem_cons_succ, List.setIfInBounds_toArray, List.set_cons_zero, List.set_cons_succ]
                        refine wpAnyH_take (i := 9) (v := ?_) rfl (by kernel_rfl) (by kernel_rfl) (by kernel_rfl) (fun _ _ _ h => h) (Or.inl ⟨by rfl, ?_⟩) (by assumption) ?_
                        rotate_left
                        focus (intro _ hSw; (try dsimp only at hSw); go_simp; try (with_reducible rfl))
                        try simp only [Act.put, List.getElem_toArray, List.getElem_cons_zero, List.getElem_cons_succ, List.setIfInBounds_toArray, List.set_cons_zero, List.set_cons_succ]
                        refine wpAnyH_take (i := 10) (v := ?_) rfl (by kernel_rfl) (by kernel_rfl) (by kernel_rfl) (fun _ _ _ h => h) (Or.inl ⟨by rfl, ?_⟩) (by assumption) ?_
                        rotate_left
                        focus (intro _ hSw; (try dsimp only at hSw); go_simp; try (with_reducible rfl))
                        try simp only [Act.put, List.getElem_toArray, List.getElem_cons_zero, List.getElem_cons_succ, List.setIfInBounds_toArray, List.set_cons_zero, List.set_cons_succ]
                        refine wpAnyH_ready (rs := [12]) (by kernel_rfl) (by simp) ?_
                        refine AllReadyH.cons rfl (fun K hK => ?_) ?_
                        ·
                          rw [if_pos (by rfl)]
                          refine wp_store_row _ _ _ rfl _ #[sv A.1.ent, .slice co A.1.tups.length cc, .slice eo A.1.notes.length ec] rfl rfl _ _ bgN (by kernel_rfl) (by rfl) (by kernel_rfl) ?_
                          try go_simp
                          refine hK.out _ _ ?_ (fun hHeld => ?_)
                          focus ((try dsimp only); exact HS7.out _ (Below.setRow hZ fN _))
                          clear hK K
                          try simp only [Act.put, List.getElem_toArray, List.getElem_cons_zero, List.getElem_cons_succ, List.setIfInBounds_toArray, List.set_cons_zero, List.set_cons_succ]
                          obtain ⟨c37, hc37⟩ : ∃ z, z = World.setRow c36 gN #[sv A.1.ent, .slice co A.1.tups.length cc, .slice eo A.1.notes.length ec] := ⟨_, rfl⟩
                          have hZf : Below z0.heap.size z0 c37 := by rw [hc37]; exact Below.setRow hZ fN _
                          have bF : Blk c37 gN 25 #[sv A.1.ent, .slice co A.1.tups.length cc, .slice eo A.1.notes.length ec] := by rw [hc37]; exact Blk.row bgN _
                          have HKF := Lib.hid (show RTups c37 (.slice co A.1.tups.length cc) A.1.tups ∧ RStrs c37 (.slice eo A.1.notes.length ec) A.1.notes from by rw [hc37]; exact ⟨RRow.rowT HK2.out.1 hOf.1, RRow.rowS HK2.out.2 hOf.2⟩)
                          rw [← hc37] at hHeld ⊢
                          clear hc37 hZ bgN HK2 hOf fN
                          obtain ⟨wf, hwf⟩ : ∃ z, z = c37 := ⟨_, rfl⟩
                          subst hwf
                          refine wpAnyH_take (i := 13) (v := ?_) rfl (by kernel_rfl) (by kernel_rfl) (by kernel_rfl) (fun _ _ _ h => h) (Or.inl ⟨by rfl, ?_⟩) (by assumption) ?_
                          rotate_left
                          focus (intro _ hSw; (try dsimp only at hSw); go_simp; try (with_reducible rfl))
                          try simp only [Act.put, List.getElem_toArray, List.getElem_cons_zero, List.getElem_cons_succ, List.setIfInBounds_toArray, List.set_cons_zero, List.set_cons_succ]
                          refine wpAnyH_done (by kernel_rfl) ?_ _
                          have hZ := hZf
                          clear hZf
                          have hBF := HBz.out.trans (hZ.mono HBz.out.size)
                          have h3F := HB3z.out.trans (hZ.mono HB3z.out.size)
                          have hmF := HM.out.below hBF
                          obtain ⟨p0, p1, p2⟩ := blk_f3T (Blk.call HBA.out h3F)
                          obtain ⟨q0, q1, q2⟩ := blk_f3T bF
                          have hsd := fun wx va vb hx hy => sameDoc_c va vb A.1 A.1 wx hx hy
                          rw [sameDoc_self] at hsd
                          have HSD := Lib.hid hsd
                          have HD1 := Lib.hid (show RDoc _ (.agg #[sv A.1.ent, .slice ao A.1.tups.length ac, .slice bo A.1.notes.length bc]) A.1 from ⟨_, _, rfl, HJ.out.1.below h3F (Nat.le_refl _), RRow.below HJ.out.2 h3F (Nat.le_refl _)⟩)
                          have HD2 := Lib.hid (show RDoc _ (.agg #[sv A.1.ent, .slice co A.1.tups.length cc, .slice eo A.1.notes.length ec]) A.1 from ⟨_, _, rfl, HKF.out.1, HKF.out.2⟩)
                          clear hsd bF hHeld
                          go_wp2_with (first | (go_at_call 9; refine (HSD.out _ _ _ HD1.out HD2.out).mono ?_; rintro e w17 ⟨rfl, hC7⟩; have hm7 := hmF.below hC7) | (go_at_call 8; refine (HAW.out _ hm7).mono ?_; rintro e w18 ⟨rfl, hC8⟩))
                          go_ret
                          exact ⟨rfl, (hBF.trans (hC7.mono hBF.size)).trans (hC8.mono (Nat.le_trans hBF.size hC7.size))⟩
                        exact AllReadyH.nil
                      exact AllReadyH.nil
                    exact AllReadyH.nil
                  exact AllReadyH.nil
                exact AllReadyH.nil
              refine AllReadyH.cons rfl (fun K hK => ?_) ?_
              ·
                obtain ⟨gN, hgN⟩ : ∃ g, g = c1.heap.size := ⟨_, rfl⟩
                obtain ⟨c38, hc38⟩ : ∃ z, z = c1.alloc (.cells #[.string ⟨#[]⟩, .slice none 0 0, .slice none 0 0] 25) := ⟨_, rfl⟩
                have hZn : Below z0.heap.size z0 c38 := by rw [hc38]; exact hZ.alloc hZ.size _
                have bgNn : Blk c38 gN 25 #[.string ⟨#[]⟩, .slice none 0 0, .slice none 0 0] := by rw [hc38, hgN]; exact Blk.new _ _ _
                have hRn : c38.ownsRow z0.heap.size 27 7 (.slice (some ⟨g1, 0, none⟩) 0 0) 0 [] := by rw [hc38]; exact World.ownsRow.alloc hR _
                have egN : some gN ≠ (Value.ownBlock (.slice (some ⟨g1, 0, none⟩) 0 0)) := fun e => by have := (World.ownsRow.lt hR _ e.symm).2; omega
                have fN : z0.heap.size ≤ gN := by rw [hgN]; exact hZ.size
                go_simp
                refine hK.out _ _ ?_ (fun hHeld => ?_)
                focus ((try dsimp only); first | exact HS7.out _ hZn | (rw [← hc38]; exact HS7.out _ hZn))
                clear hK K
                try simp only [Act.put, List.getElem_toArray, List.getElem_cons_zero, List.getElem_cons_succ, List.setIfInBounds_toArray, List.set_cons_zero, List.set_cons_succ]
                rw [← hc38] at hHeld ⊢
                try simp only [← hgN]
                clear hZ
                have hZ := hZn
                clear hZn
                clear hR
                have hR := hRn
                clear hRn
                have bgN := bgNn
                clear bgNn
                clear hc38 hgN
                refine wpAnyH_ready (rs := [3, 5]) (by kernel_rfl) (by simp) ?_
                refine AllReadyH.cons rfl (fun K hK => ?_) ?_
                ·
                  refine op_appG (base := z0.heap.size) (v := (.slice (some ⟨g1, 0, none⟩) 0 0)) (n := 0) (xs := []) (news := xs) (ad := ⟨b, off, none⟩) (m := L.length) (c := pc) rfl Tryd.underlying31 infoPub rfl (by decide) rfl rfl hR (by omega) HXL.out (HXC.out _ (HBz.out.trans (hZ.mono HBz.out.size))) HX1.out (by decide) (by omega) hZ.size (fun v3 c39 h2 h3 h4 => ?_)
                  have hZn := hZ.grown h3 hZ.size (fun k hk => (World.ownsRow.lt hR k hk).1)
                  have hRn : c39.ownsRow z0.heap.size 27 7 v3 L.length xs := by simpa using h2
                  have bgNn := blk_grownO bgN h3 egN
                  have egNn : some gN ≠ Value.ownBlock v3 := fun e => by
                    rcases h4 with h4 | h4
                    · exact egN (e.trans h4)
                    · rw [h4] at e; injection e with e; have := Blk.lt bgN; omega
                  clear hZ hR h2
                  have hZ := hZn
                  have hR := hRn
                  clear hZn hRn h3 h4
                  clear bgN egN
                  have bgN := bgNn
                  have egN := egNn
                  clear bgNn egNn
                  refine hK.out _ _ ?_ (fun hHeld => ?_)
                  focus ((try dsimp only); exact HS7.out _ hZ)
                  clear hK K
                  try simp only [Act.put, List.getElem_toArray, List.getElem_cons_zero, List.getElem_cons_succ, List.setIfInBounds_toArray, List.set_cons_zero, List.set_cons_succ]
                  refine wpAnyH_ready (rs := [5]) (by kernel_rfl) (by simp) ?_
                  refine AllReadyH.cons rfl (fun K hK => ?_) ?_
                  ·
                    obtain ⟨g5, hg5⟩ : ∃ g, g = c39.heap.size := ⟨_, rfl⟩
                    obtain ⟨c40, hc40⟩ : ∃ z, z = c39.alloc (.cells #[.int .i64 (X + 1), .string ⟨#[]⟩, .string ⟨#[]⟩, .int .i64 0, .string E, .slice tuo q.doc.tups.length tc, .slice noo q.doc.notes.length nc] 27) := ⟨_, rfl⟩
                    have hZn : Below z0.heap.size z0 c40 := by rw [hc40]; exact hZ.alloc hZ.size _
                    have bg5n : Blk c40 g5 27 #[.int .i64 (X + 1), .string ⟨#[]⟩, .string ⟨#[]⟩, .int .i64 0, .string E, .slice tuo q.doc.tups.length tc, .slice noo q.doc.notes.length nc] := by rw [hc40, hg5]; exact Blk.new _ _ _
                    have bgNn : Blk c40 gN 25 #[.string ⟨#[]⟩, .slice none 0 0, .slice none 0 0] := by rw [hc40]; exact Blk.alloc bgN _
                    have hRn : c40.ownsRow z0.heap.size 27 7 v3 L.length xs := by rw [hc40]; exact World.ownsRow.alloc hR _
                    have eg5 : some g5 ≠ (Value.ownBlock v3) := fun e => by have := (World.ownsRow.lt hR _ e.symm).2; omega
                    go_simp
                    refine hK.out _ _ ?_ (fun hHeld => ?_)
                    focus ((try dsimp only); first | exact HS7.out _ hZn | (rw [← hc40]; exact HS7.out _ hZn))
                    clear hK K
                    try simp only [Act.put, List.getElem_toArray, List.getElem_cons_zero, List.getElem_cons_succ, List.setIfInBounds_toArray, List.set_cons_zero, List.set_cons_succ]
                    rw [← hc40] at hHeld ⊢
                    try simp only [← hg5]
                    clear hZ
                    have hZ := hZn
                    clear hZn
                    clear hR
                    have hR := hRn
                    clear hRn
                    have bg5 := bg5n
                    clear bg5n
                    clear bgN
                    have bgN := bgNn
                    clear bgNn
                    clear hc40 hg5
                    refine wpAnyH_ready (rs := [6]) (by kernel_rfl) (by simp) ?_
                    refine AllReadyH.cons rfl (fun K hK => ?_) ?_
                    ·
                      refine op_appG (base := z0.heap.size) (v := v3) (n := L.length) (xs := xs) (news := (#[.int .i64 (X + 1), .string ⟨#[]⟩, .string ⟨#[]⟩, .int .i64 0, .string E, .slice tuo q.doc.tups.length tc, .slice noo q.doc.notes.length nc] : Array Value).toList) (ad := ⟨g5, 0, none⟩) (m := 1) (c := 1) rfl Tryd.underlying31 infoPub rfl (by decide) rfl rfl hR (by decide) rfl (fun j u hj => by rw [add_cell]; have := boxedCell bg5 (0 + j); rw [this]; simpa using hj) (by intro u hu; simp at hu; rcases hu with rfl | rfl | rfl | rfl | rfl | rfl | rfl <;> rfl) (by decide) (by omega) hZ.size (fun v6 c41 h2 h3 h4 => ?_)
                      have hZn := hZ.grown h3 hZ.size (fun k hk => (World.ownsRow.lt hR k hk).1)
                      have hRn := h2
                      have bg5n := blk_grownO bg5 h3 eg5
                      have eg5n : some g5 ≠ Value.ownBlock v6 := fun e => by
                        rcases h4 with h4 | h4
                        · exact eg5 (e.trans h4)
                        · rw [h4] at e; injection e with e; have := Blk.lt bg5; omega
                      have bgNn := blk_grownO bgN h3 egN
                      have egNn : some gN ≠ Value.ownBlock v6 := fun e => by
                        rcases h4 with h4 | h4
                        · exact egN (e.trans h4)
                        · rw [h4] at e; injection e with e; have := Blk.lt bgN; omega
                      clear hZ hR h2
                      have hZ := hZn
                      have hR := hRn
                      clear hZn hRn h3 h4
                      clear bg5 eg5
                      have bg5 := bg5n
                      have eg5 := eg5n
                      clear bg5n eg5n
                      clear bgN egN
                      have bgN := bgNn
                      have egN := egNn
                      clear bgNn egNn
                      refine hK.out _ _ ?_ (fun hHeld => ?_)
                      focus ((try dsimp only); exact HS7.out _ hZ)
                      clear hK K
                      try simp only [Act.put, List.getElem_toArray, List.getElem_cons_zero, List.getElem_cons_succ, List.setIfInBounds_toArray, List.set_cons_zero, List.set_cons_succ]
                      refine wpAnyH_ready (rs := [7]) (by kernel_rfl) (by simp) ?_
                      refine AllReadyH.cons rfl (fun K hK => ?_) ?_
                      ·
                        have hpubs : RPubs c41 v6 (L ++ [⟨X + 1, q.doc⟩]) := RPubs.of_rows (xs := xs ++ (#[.int .i64 (X + 1), .string ⟨#[]⟩, .string ⟨#[]⟩, .int .i64 0, .string E, .slice tuo q.doc.tups.length tc, .slice noo q.doc.notes.length nc] : Array Value).toList) (by rw [List.length_append]; exact RRow.of_own hR) (PubRows.snoc (HXP.out.below (HBz.out.trans (hZ.mono HBz.out.size)) (Nat.le_refl _)) ⟨⟨#[]⟩, ⟨#[]⟩, 0, _, _, by rw [HSE.out], HKT.out.1.below (HBz.out.trans (hZ.mono HBz.out.size)) (Nat.le_refl _), RRow.below HKT.out.2 (HBz.out.trans (hZ.mono HBz.out.size)) (Nat.le_refl _)⟩)
                        go_simp
                        go_at_call 7
                        refine (HC3.out _ (HM.out.below (HBz.out.trans (hZ.mono HBz.out.size))) _ hpubs).mono ?_
                        rintro e c42 ⟨u1, u2, rfl, k1, k2, fr1, fr2, hC⟩
                        have HK2 := Lib.hid (And.intro k1 k2)
                        obtain ⟨co, cc, rfl, hcc⟩ := k1.cap
                        obtain ⟨eo, ec, rfl, hec⟩ := k2.cap
                        have hZn := hZ.trans (hC.mono hZ.size)
                        have bgNn := Blk.call bgN hC
                        have hOf : Offs gN (.slice co A.1.tups.length cc) A.1.tups ∧ Offs gN (.slice eo A.1.notes.length ec) A.1.notes := ⟨Offs.fresh fr1 (Blk.lt bgN), Offs.fresh fr2 (Blk.lt bgN)⟩
                        clear bgN egN
                        have bgN := bgNn
                        clear bgNn
                        clear hZ hR bg5 eg5 k1 k2 fr1 fr2 hC hpubs
                        have hZ := hZn
                        clear hZn
                        (try dsimp only)
                        refine hK.out _ _ ?_ (fun hHeld => ?_)
                        focus ((try dsimp only); exact HS7.out _ hZ)
                        clear hK K
                        try simp only [Act.put, List.getElem_toArray, List.getElem_cons_zero, List.getElem_cons_succ, List.setIfInBounds_toArray, List.set_cons_zero, List.set_cons_succ]
                        refine wpAnyH_take (i := 8) (v := ?_) rfl (by kernel_rfl) (by kernel_rfl) (by kernel_rfl) (fun _ _ _ h => h) (Or.inl ⟨by rfl, ?_⟩) (by assumption) ?_
                        rotate_left
                        focus (intro _ hSw; (try dsimp only at hSw); go_simp; try (with_reducible rfl))
                        try simp only [Act.put, List.getElem_toArray, List.getElem_cons_zero, List.getElem_cons_succ, List.setIfInBounds_toArray, List.set_cons_zero, List.set_cons_succ]
                        refine wpAnyH_take (i := 9) (v := ?_) rfl (by kernel_rfl) (by kernel_rfl) (by kernel_rfl) (fun _ _ _ h => h) (Or.inl ⟨by rfl, ?_⟩) (by assumption) ?_
                        rotate_left
                        focus (intro _ hSw; (try dsimp only at hSw); go_simp; try (with_reducible rfl))
                        try simp only [Act.put, List.getElem_toArray, List.getElem_cons_zero, List.getElem_cons_succ, List.setIfInBounds_toArray, List.set_cons_zero, List.set_cons_succ]
                        refine wpAnyH_take (i := 10) (v := ?_) rfl (by kernel_rfl) (by kernel_rfl) (by kernel_rfl) (fun _ _ _ h => h) (Or.inl ⟨by rfl, ?_⟩) (by assumption) ?_
                        rotate_left
                        focus (intro _ hSw; (try dsimp only at hSw); go_simp; try (with_reducible rfl))
                        try simp only [Act.put, List.getElem_toArray, List.getElem_cons_zero, List.getElem_cons_succ, List.setIfInBounds_toArray, List.set_cons_zero, List.set_cons_succ]
                        refine wpAnyH_ready (rs := [12]) (by kernel_rfl) (by simp) ?_
                        refine AllReadyH.cons rfl (fun K hK => ?_) ?_
                        ·
                          rw [if_pos (by rfl)]
                          refine wp_store_row _ _ _ rfl _ #[sv A.1.ent, .slice co A.1.tups.length cc, .slice eo A.1.notes.length ec] rfl rfl _ _ bgN (by kernel_rfl) (by rfl) (by kernel_rfl) ?_
                          try go_simp
                          refine hK.out _ _ ?_ (fun hHeld => ?_)
                          focus ((try dsimp only); exact HS7.out _ (Below.setRow hZ fN _))
                          clear hK K
                          try simp only [Act.put, List.getElem_toArray, List.getElem_cons_zero, List.getElem_cons_succ, List.setIfInBounds_toArray, List.set_cons_zero, List.set_cons_succ]
                          obtain ⟨c43, hc43⟩ : ∃ z, z = World.setRow c42 gN #[sv A.1.ent, .slice co A.1.tups.length cc, .slice eo A.1.notes.length ec] := ⟨_, rfl⟩
                          have hZf : Below z0.heap.size z0 c43 := by rw [hc43]; exact Below.setRow hZ fN _
                          have bF : Blk c43 gN 25 #[sv A.1.ent, .slice co A.1.tups.length cc, .slice eo A.1.notes.length ec] := by rw [hc43]; exact Blk.row bgN _
                          have HKF := Lib.hid (show RTups c43 (.slice co A.1.tups.length cc) A.1.tups ∧ RStrs c43 (.slice eo A.1.notes.length ec) A.1.notes from by rw [hc43]; exact ⟨RRow.rowT HK2.out.1 hOf.1, RRow.rowS HK2.out.2 hOf.2⟩)
                          rw [← hc43] at hHeld ⊢
                          clear hc43 hZ bgN HK2 hOf fN
                          obtain ⟨wf, hwf⟩ : ∃ z, z = c43 := ⟨_, rfl⟩
                          subst hwf
                          refine wpAnyH_take (i := 13) (v := ?_) rfl (by kernel_rfl) (by kernel_rfl) (by kernel_rfl) (fun _ _ _ h => h) (Or.inl ⟨by rfl, ?_⟩) (by assumption) ?_
                          rotate_left
                          focus (intro _ hSw; (try dsimp only at hSw); go_simp; try (with_reducible rfl))
                          try simp only [Act.put, List.getElem_toArray, List.getElem_cons_zero, List.getElem_cons_succ, List.setIfInBounds_toArray, List.set_cons_zero, List.set_cons_succ]
                          refine wpAnyH_done (by kernel_rfl) ?_ _
                          have hZ := hZf
                          clear hZf
                          have hBF := HBz.out.trans (hZ.mono HBz.out.size)
                          have h3F := HB3z.out.trans (hZ.mono HB3z.out.size)
                          have hmF := HM.out.below hBF
                          obtain ⟨p0, p1, p2⟩ := blk_f3T (Blk.call HBA.out h3F)
                          obtain ⟨q0, q1, q2⟩ := blk_f3T bF
                          have hsd := fun wx va vb hx hy => sameDoc_c va vb A.1 A.1 wx hx hy
                          rw [sameDoc_self] at hsd
                          have HSD := Lib.hid hsd
                          have HD1 := Lib.hid (show RDoc _ (.agg #[sv A.1.ent, .slice ao A.1.tups.length ac, .slice bo A.1.notes.length bc]) A.1 from ⟨_, _, rfl, HJ.out.1.below h3F (Nat.le_refl _), RRow.below HJ.out.2 h3F (Nat.le_refl _)⟩)
                          have HD2 := Lib.hid (show RDoc _ (.agg #[sv A.1.ent, .slice co A.1.tups.length cc, .slice eo A.1.notes.length ec]) A.1 from ⟨_, _, rfl, HKF.out.1, HKF.out.2⟩)
                          clear hsd bF hHeld
                          go_wp2_with (first | (go_at_call 9; refine (HSD.out _ _ _ HD1.out HD2.out).mono ?_; rintro e w17 ⟨rfl, hC7⟩; have hm7 := hmF.below hC7) | (go_at_call 8; refine (HAW.out _ hm7).mono ?_; rintro e w18 ⟨rfl, hC8⟩))
                          go_ret
                          exact ⟨rfl, (hBF.trans (hC7.mono hBF.size)).trans (hC8.mono (Nat.le_trans hBF.size hC7.size))⟩
                        exact AllReadyH.nil
                      exact AllReadyH.nil
                    exact AllReadyH.nil
                  exact AllReadyH.nil
                refine AllReadyH.cons rfl (fun K hK => ?_) ?_
                ·
                  obtain ⟨g5, hg5⟩ : ∃ g, g = c38.heap.size := ⟨_, rfl⟩
                  obtain ⟨c44, hc44⟩ : ∃ z, z = c38.alloc (.cells #[.int .i64 (X + 1), .string ⟨#[]⟩, .string ⟨#[]⟩, .int .i64 0, .string E, .slice tuo q.doc.tups.length tc, .slice noo q.doc.notes.length nc] 27) := ⟨_, rfl⟩
                  have hZn : Below z0.heap.size z0 c44 := by rw [hc44]; exact hZ.alloc hZ.size _
                  have bg5n : Blk c44 g5 27 #[.int .i64 (X + 1), .string ⟨#[]⟩, .string ⟨#[]⟩, .int .i64 0, .string E, .slice tuo q.doc.tups.length tc, .slice noo q.doc.notes.length nc] := by rw [hc44, hg5]; exact Blk.new _ _ _
                  have bgNn : Blk c44 gN 25 #[.string ⟨#[]⟩, .slice none 0 0, .slice none 0 0] := by rw [hc44]; exact Blk.alloc bgN _
                  have hRn : c44.ownsRow z0.heap.size 27 7 (.slice (some ⟨g1, 0, none⟩) 0 0) 0 [] := by rw [hc44]; exact World.ownsRow.alloc hR _
                  have eg5 : some g5 ≠ (Value.ownBlock (.slice (some ⟨g1, 0, none⟩) 0 0)) := fun e => by have := (World.ownsRow.lt hR _ e.symm).2; omega
                  go_simp
                  refine hK.out _ _ ?_ (fun hHeld => ?_)
                  focus ((try dsimp only); first | exact HS7.out _ hZn | (rw [← hc44]; exact HS7.out _ hZn))
                  clear hK K
                  try simp only [Act.put, List.getElem_toArray, List.getElem_cons_zero, List.getElem_cons_succ, List.setIfInBounds_toArray, List.set_cons_zero, List.set_cons_succ]
                  rw [← hc44] at hHeld ⊢
                  try simp only [← hg5]
                  clear hZ
                  have hZ := hZn
                  clear hZn
                  clear hR
                  have hR := hRn
                  clear hRn
                  have bg5 := bg5n
                  clear bg5n
                  clear bgN
                  have bgN := bgNn
                  clear bgNn
                  clear hc44 hg5
                  refine wpAnyH_ready (rs := [3]) (by kernel_rfl) (by simp) ?_
                  refine AllReadyH.cons rfl (fun K hK => ?_) ?_
                  ·
                    refine op_appG (base := z0.heap.size) (v := (.slice (some ⟨g1, 0, none⟩) 0 0)) (n := 0) (xs := []) (news := xs) (ad := ⟨b, off, none⟩) (m := L.length) (c := pc) rfl Tryd.underlying31 infoPub rfl (by decide) rfl rfl hR (by omega) HXL.out (HXC.out _ (HBz.out.trans (hZ.mono HBz.out.size))) HX1.out (by decide) (by omega) hZ.size (fun v3 c45 h2 h3 h4 => ?_)
                    have hZn := hZ.grown h3 hZ.size (fun k hk => (World.ownsRow.lt hR k hk).1)
                    have hRn : c45.ownsRow z0.heap.size 27 7 v3 L.length xs := by simpa using h2
                    have bg5n := blk_grownO bg5 h3 eg5
                    have eg5n : some g5 ≠ Value.ownBlock v3 := fun e => by
                      rcases h4 with h4 | h4
                      · exact eg5 (e.trans h4)
                      · rw [h4] at e; injection e with e; have := Blk.lt bg5; omega
                    have bgNn := blk_grownO bgN h3 egN
                    have egNn : some gN ≠ Value.ownBlock v3 := fun e => by
                      rcases h4 with h4 | h4
                      · exact egN (e.trans h4)
                      · rw [h4] at e; injection e with e; have := Blk.lt bgN; omega
                    clear hZ hR h2
                    have hZ := hZn
                    have hR := hRn
                    clear hZn hRn h3 h4
                    clear bg5 eg5
                    have bg5 := bg5n
                    have eg5 := eg5n
                    clear bg5n eg5n
                    clear bgN egN
                    have bgN := bgNn
                    have egN := egNn
                    clear bgNn egNn
                    refine hK.out _ _ ?_ (fun hHeld => ?_)
                    focus ((try dsimp only); exact HS7.out _ hZ)
                    clear hK K
                    try simp only [Act.put, List.getElem_toArray, List.getElem_cons_zero, List.getElem_cons_succ, List.setIfInBounds_toArray, List.set_cons_zero, List.set_cons_succ]
                    refine wpAnyH_ready (rs := [6]) (by kernel_rfl) (by simp) ?_
                    refine AllReadyH.cons rfl (fun K hK => ?_) ?_
                    ·
                      refine op_appG (base := z0.heap.size) (v := v3) (n := L.length) (xs := xs) (news := (#[.int .i64 (X + 1), .string ⟨#[]⟩, .string ⟨#[]⟩, .int .i64 0, .string E, .slice tuo q.doc.tups.length tc, .slice noo q.doc.notes.length nc] : Array Value).toList) (ad := ⟨g5, 0, none⟩) (m := 1) (c := 1) rfl Tryd.underlying31 infoPub rfl (by decide) rfl rfl hR (by decide) rfl (fun j u hj => by rw [add_cell]; have := boxedCell bg5 (0 + j); rw [this]; simpa using hj) (by intro u hu; simp at hu; rcases hu with rfl | rfl | rfl | rfl | rfl | rfl | rfl <;> rfl) (by decide) (by omega) hZ.size (fun v6 c46 h2 h3 h4 => ?_)
                      have hZn := hZ.grown h3 hZ.size (fun k hk => (World.ownsRow.lt hR k hk).1)
                      have hRn := h2
                      have bg5n := blk_grownO bg5 h3 eg5
                      have eg5n : some g5 ≠ Value.ownBlock v6 := fun e => by
                        rcases h4 with h4 | h4
                        · exact eg5 (e.trans h4)
                        · rw [h4] at e; injection e with e; have := Blk.lt bg5; omega
                      have bgNn := blk_grownO bgN h3 egN
                      have egNn : some gN ≠ Value.ownBlock v6 := fun e => by
                        rcases h4 with h4 | h4
                        · exact egN (e.trans h4)
                        · rw [h4] at e; injection e with e; have := Blk.lt bgN; omega
                      clear hZ hR h2
                      have hZ := hZn
                      have hR := hRn
                      clear hZn hRn h3 h4
                      clear bg5 eg5
                      have bg5 := bg5n
                      have eg5 := eg5n
                      clear bg5n eg5n
                      clear bgN egN
                      have bgN := bgNn
                      have egN := egNn
                      clear bgNn egNn
                      refine hK.out _ _ ?_ (fun hHeld => ?_)
                      focus ((try dsimp only); exact HS7.out _ hZ)
                      clear hK K
                      try simp only [Act.put, List.getElem_toArray, List.getElem_cons_zero, List.getElem_cons_succ, List.setIfInBounds_toArray, List.set_cons_zero, List.set_cons_succ]
                      refine wpAnyH_ready (rs := [7]) (by kernel_rfl) (by simp) ?_
                      refine AllReadyH.cons rfl (fun K hK => ?_) ?_
                      ·
                        have hpubs : RPubs c46 v6 (L ++ [⟨X + 1, q.doc⟩]) := RPubs.of_rows (xs := xs ++ (#[.int .i64 (X + 1), .string ⟨#[]⟩, .string ⟨#[]⟩, .int .i64 0, .string E, .slice tuo q.doc.tups.length tc, .slice noo q.doc.notes.length nc] : Array Value).toList) (by rw [List.length_append]; exact RRow.of_own hR) (PubRows.snoc (HXP.out.below (HBz.out.trans (hZ.mono HBz.out.size)) (Nat.le_refl _)) ⟨⟨#[]⟩, ⟨#[]⟩, 0, _, _, by rw [HSE.out], HKT.out.1.below (HBz.out.trans (hZ.mono HBz.out.size)) (Nat.le_refl _), RRow.below HKT.out.2 (HBz.out.trans (hZ.mono HBz.out.size)) (Nat.le_refl _)⟩)
                        go_simp
                        go_at_call 7
                        refine (HC3.out _ (HM.out.below (HBz.out.trans (hZ.mono HBz.out.size))) _ hpubs).mono ?_
                        rintro e c47 ⟨u1, u2, rfl, k1, k2, fr1, fr2, hC⟩
                        have HK2 := Lib.hid (And.intro k1 k2)
                        obtain ⟨co, cc, rfl, hcc⟩ := k1.cap
                        obtain ⟨eo, ec, rfl, hec⟩ := k2.cap
                        have hZn := hZ.trans (hC.mono hZ.size)
                        have bgNn := Blk.call bgN hC
                        have hOf : Offs gN (.slice co A.1.tups.length cc) A.1.tups ∧ Offs gN (.slice eo A.1.notes.length ec) A.1.notes := ⟨Offs.fresh fr1 (Blk.lt bgN), Offs.fresh fr2 (Blk.lt bgN)⟩
                        clear bgN egN
                        have bgN := bgNn
                        clear bgNn
                        clear hZ hR bg5 eg5 k1 k2 fr1 fr2 hC hpubs
                        have hZ := hZn
                        clear hZn
                        (try dsimp only)
                        refine hK.out _ _ ?_ (fun hHeld => ?_)
                        focus ((try dsimp only); exact HS7.out _ hZ)
                        clear hK K
                        try simp only [Act.put, List.getElem_toArray, List.getElem_cons_zero, List.getElem_cons_succ, List.setIfInBounds_toArray, List.set_cons_zero, List.set_cons_succ]
                        refine wpAnyH_take (i := 8) (v := ?_) rfl (by kernel_rfl) (by kernel_rfl) (by kernel_rfl) (fun _ _ _ h => h) (Or.inl ⟨by rfl, ?_⟩) (by assumption) ?_
                        rotate_left
                        focus (intro _ hSw; (try dsimp only at hSw); go_simp; try (with_reducible rfl))
                        try simp only [Act.put, List.getElem_toArray, List.getElem_cons_zero, List.getElem_cons_succ, List.setIfInBounds_toArray, List.set_cons_zero, List.set_cons_succ]
                        refine wpAnyH_take (i := 9) (v := ?_) rfl (by kernel_rfl) (by kernel_rfl) (by kernel_rfl) (fun _ _ _ h => h) (Or.inl ⟨by rfl, ?_⟩) (by assumption) ?_
                        rotate_left
                        focus (intro _ hSw; (try dsimp only at hSw); go_simp; try (with_reducible rfl))
                        try simp only [Act.put, List.getElem_toArray, List.getElem_cons_zero, List.getElem_cons_succ, List.setIfInBounds_toArray, List.set_cons_zero, List.set_cons_succ]
                        refine wpAnyH_take (i := 10) (v := ?_) rfl (by kernel_rfl) (by kernel_rfl) (by kernel_rfl) (fun _ _ _ h => h) (Or.inl ⟨by rfl, ?_⟩) (by assumption) ?_
                        rotate_left
                        focus (intro _ hSw; (try dsimp only at hSw); go_simp; try (with_reducible rfl))
                        try simp only [Act.put, List.getElem_toArray, List.getElem_cons_zero, List.getElem_cons_succ, List.setIfInBounds_toArray, List.set_cons_zero, List.set_cons_succ]
                        refine wpAnyH_ready (rs := [12]) (by kernel_rfl) (by simp) ?_
                        refine AllReadyH.cons rfl (fun K hK => ?_) ?_
                        ·
                          rw [if_pos (by rfl)]
                          refine wp_store_row _ _ _ rfl _ #[sv A.1.ent, .slice co A.1.tups.length cc, .slice eo A.1.notes.length ec] rfl rfl _ _ bgN (by kernel_rfl) (by rfl) (by kernel_rfl) ?_
                          try go_simp
                          refine hK.out _ _ ?_ (fun hHeld => ?_)
                          focus ((try dsimp only); exact HS7.out _ (Below.setRow hZ fN _))
                          clear hK K
                          try simp only [Act.put, List.getElem_toArray, List.getElem_cons_zero, List.getElem_cons_succ, List.setIfInBounds_toArray, List.set_cons_zero, List.set_cons_succ]
                          obtain ⟨c48, hc48⟩ : ∃ z, z = World.setRow c47 gN #[sv A.1.ent, .slice co A.1.tups.length cc, .slice eo A.1.notes.length ec] := ⟨_, rfl⟩
                          have hZf : Below z0.heap.size z0 c48 := by rw [hc48]; exact Below.setRow hZ fN _
                          have bF : Blk c48 gN 25 #[sv A.1.ent, .slice co A.1.tups.length cc, .slice eo A.1.notes.length ec] := by rw [hc48]; exact Blk.row bgN _
                          have HKF := Lib.hid (show RTups c48 (.slice co A.1.tups.length cc) A.1.tups ∧ RStrs c48 (.slice eo A.1.notes.length ec) A.1.notes from by rw [hc48]; exact ⟨RRow.rowT HK2.out.1 hOf.1, RRow.rowS HK2.out.2 hOf.2⟩)
                          rw [← hc48] at hHeld ⊢
                          clear hc48 hZ bgN HK2 hOf fN
                          obtain ⟨wf, hwf⟩ : ∃ z, z = c48 := ⟨_, rfl⟩
                          subst hwf
                          refine wpAnyH_take (i := 13) (v := ?_) rfl (by kernel_rfl) (by kernel_rfl) (by kernel_rfl) (fun _ _ _ h => h) (Or.inl ⟨by rfl, ?_⟩) (by assumption) ?_
                          rotate_left
                          focus (intro _ hSw; (try dsimp only at hSw); go_simp; try (with_reducible rfl))
                          try simp only [Act.put, List.getElem_toArray, List.getElem_cons_zero, List.getElem_cons_succ, List.setIfInBounds_toArray, List.set_cons_zero, List.set_cons_succ]
                          refine wpAnyH_done (by kernel_rfl) ?_ _
                          have hZ := hZf
                          clear hZf
                          have hBF := HBz.out.trans (hZ.mono HBz.out.size)
                          have h3F := HB3z.out.trans (hZ.mono HB3z.out.size)
                          have hmF := HM.out.below hBF
                          obtain ⟨p0, p1, p2⟩ := blk_f3T (Blk.call HBA.out h3F)
                          obtain ⟨q0, q1, q2⟩ := blk_f3T bF
                          have hsd := fun wx va vb hx hy => sameDoc_c va vb A.1 A.1 wx hx hy
                          rw [sameDoc_self] at hsd
                          have HSD := Lib.hid hsd
                          have HD1 := Lib.hid (show RDoc _ (.agg #[sv A.1.ent, .slice ao A.1.tups.length ac, .slice bo A.1.notes.length bc]) A.1 from ⟨_, _, rfl, HJ.out.1.below h3F (Nat.le_refl _), RRow.below HJ.out.2 h3F (Nat.le_refl _)⟩)
                          have HD2 := Lib.hid (show RDoc _ (.agg #[sv A.1.ent, .slice co A.1.tups.length cc, .slice eo A.1.notes.length ec]) A.1 from ⟨_, _, rfl, HKF.out.1, HKF.out.2⟩)
                          clear hsd bF hHeld
                          go_wp2_with (first | (go_at_call 9; refine (HSD.out _ _ _ HD1.out HD2.out).mono ?_; rintro e w17 ⟨rfl, hC7⟩; have hm7 := hmF.below hC7) | (go_at_call 8; refine (HAW.out _ hm7).mono ?_; rintro e w18 ⟨rfl, hC8⟩))
                          go_ret
                          exact ⟨rfl, (hBF.trans (hC7.mono hBF.size)).trans (hC8.mono (Nat.le_trans hBF.size hC7.size))⟩
                        exact AllReadyH.nil
                      exact AllReadyH.nil
                    exact AllReadyH.nil
                  exact AllReadyH.nil
                exact AllReadyH.nil
              exact AllReadyH.nil
            refine AllReadyH.cons rfl (fun K hK => ?_) ?_
            ·
              obtain ⟨g5, hg5⟩ : ∃ g, g = z0.heap.size := ⟨_, rfl⟩
              obtain ⟨c49, hc49⟩ : ∃ z, z = z0.alloc (.cells #[.int .i64 (X + 1), .string ⟨#[]⟩, .string ⟨#[]⟩, .int .i64 0, .string E, .slice tuo q.doc.tups.length tc, .slice noo q.doc.notes.length nc] 27) := ⟨_, rfl⟩
              have hZn : Below z0.heap.size z0 c49 := by rw [hc49]; exact hZ.alloc hZ.size _
              have bg5n : Blk c49 g5 27 #[.int .i64 (X + 1), .string ⟨#[]⟩, .string ⟨#[]⟩, .int .i64 0, .string E, .slice tuo q.doc.tups.length tc, .slice noo q.doc.notes.length nc] := by rw [hc49, hg5]; exact Blk.new _ _ _
              go_simp
              refine hK.out _ _ ?_ (fun hHeld => ?_)
              focus ((try dsimp only); first | exact HS7.out _ hZn | (rw [← hc49]; exact HS7.out _ hZn))
              clear hK K
              try simp only [Act.put, List.getElem_toArray, List.getElem_cons_zero, List.getElem_cons_succ, List.setIfInBounds_toArray, List.set_cons_zero, List.set_cons_succ]
              rw [← hc49] at hHeld ⊢
              try simp only [← hg5]
              clear hZ
              have hZ := hZn
              clear hZn
              have bg5 := bg5n
              clear bg5n
              clear hc49 hg5
              refine wpAnyH_ready (rs := [1, 11]) (by kernel_rfl) (by simp) ?_
              refine AllReadyH.cons rfl (fun K hK => ?_) ?_
              ·
                obtain ⟨g1, hg1⟩ : ∃ g, g = c49.heap.size := ⟨_, rfl⟩
                obtain ⟨c50, hc50⟩ : ∃ z, z = c49.alloc (.cells #[] 27) := ⟨_, rfl⟩
                have hZn : Below z0.heap.size z0 c50 := by rw [hc50]; exact hZ.alloc hZ.size _
                have bg5n : Blk c50 g5 27 #[.int .i64 (X + 1), .string ⟨#[]⟩, .string ⟨#[]⟩, .int .i64 0, .string E, .slice tuo q.doc.tups.length tc, .slice noo q.doc.notes.length nc] := by rw [hc50]; exact Blk.alloc bg5 _
                have hRn : c50.ownsRow z0.heap.size 27 7 (.slice (some ⟨g1, 0, none⟩) 0 0) 0 [] := by rw [hc50, hg1]; exact World.ownsRow_lit (base := z0.heap.size) (e := 27) (size := 7) c49 #[] 0 hZ.size (by decide) rfl
                have eg5 : some g5 ≠ (Value.ownBlock (.slice (some ⟨g1, 0, none⟩) 0 0)) := fun e => by have := Blk.lt bg5; have e2 : g5 = g1 := Option.some.inj e; omega
                go_simp
                refine hK.out _ _ ?_ (fun hHeld => ?_)
                focus ((try dsimp only); first | exact HS7.out _ hZn | (rw [← hc50]; exact HS7.out _ hZn))
                clear hK K
                try simp only [Act.put, List.getElem_toArray, List.getElem_cons_zero, List.getElem_cons_succ, List.setIfInBounds_toArray, List.set_cons_zero, List.set_cons_succ]
                rw [← hc50] at hHeld ⊢
                try simp only [← hg1]
                clear hZ
                have hZ := hZn
                clear hZn
                skip
                have hR := hRn
                clear hRn
                clear bg5
                have bg5 := bg5n
                clear bg5n
                clear hc50 hg1
                refine wpAnyH_ready (rs := [3, 11]) (by kernel_rfl) (by simp) ?_
                refine AllReadyH.cons rfl (fun K hK => ?_) ?_
                ·
                  refine op_appG (base := z0.heap.size) (v := (.slice (some ⟨g1, 0, none⟩) 0 0)) (n := 0) (xs := []) (news := xs) (ad := ⟨b, off, none⟩) (m := L.length) (c := pc) rfl Tryd.underlying31 infoPub rfl (by decide) rfl rfl hR (by omega) HXL.out (HXC.out _ (HBz.out.trans (hZ.mono HBz.out.size))) HX1.out (by decide) (by omega) hZ.size (fun v3 c51 h2 h3 h4 => ?_)
                  have hZn := hZ.grown h3 hZ.size (fun k hk => (World.ownsRow.lt hR k hk).1)
                  have hRn : c51.ownsRow z0.heap.size 27 7 v3 L.length xs := by simpa using h2
                  have bg5n := blk_grownO bg5 h3 eg5
                  have eg5n : some g5 ≠ Value.ownBlock v3 := fun e => by
                    rcases h4 with h4 | h4
                    · exact eg5 (e.trans h4)
                    · rw [h4] at e; injection e with e; have := Blk.lt bg5; omega
                  clear hZ hR h2
                  have hZ := hZn
                  have hR := hRn
                  clear hZn hRn h3 h4
                  clear bg5 eg5
                  have bg5 := bg5n
                  have eg5 := eg5n
                  clear bg5n eg5n
                  refine hK.out _ _ ?_ (fun hHeld => ?_)
                  focus ((try dsimp only); exact HS7.out _ hZ)
                  clear hK K
                  try simp only [Act.put, List.getElem_toArray, List.getElem_cons_zero, List.getElem_cons_succ, List.setIfInBounds_toArray, List.set_cons_zero, List.set_cons_succ]
                  refine wpAnyH_ready (rs := [6, 11]) (by kernel_rfl) (by simp) ?_
                  refine AllReadyH.cons rfl (fun K hK => ?_) ?_
                  ·
                    refine op_appG (base := z0.heap.size) (v := v3) (n := L.length) (xs := xs) (news := (#[.int .i64 (X + 1), .string ⟨#[]⟩, .string ⟨#[]⟩, .int .i64 0, .string E, .slice tuo q.doc.tups.length tc, .slice noo q.doc.notes.length nc] : Array Value).toList) (ad := ⟨g5, 0, none⟩) (m := 1) (c := 1) rfl Tryd.underlying31 infoPub rfl (by decide) rfl rfl hR (by decide) rfl (fun j u hj => by rw [add_cell]; have := boxedCell bg5 (0 + j); rw [this]; simpa using hj) (by intro u hu; simp at hu; rcases hu with rfl | rfl | rfl | rfl | rfl | rfl | rfl <;> rfl) (by decide) (by omega) hZ.size (fun v6 c52 h2 h3 h4 => ?_)
                    have hZn := hZ.grown h3 hZ.size (fun k hk => (World.ownsRow.lt hR k hk).1)
                    have hRn := h2
                    have bg5n := blk_grownO bg5 h3 eg5
                    have eg5n : some g5 ≠ Value.ownBlock v6 := fun e => by
                      rcases h4 with h4 | h4
                      · exact eg5 (e.trans h4)
                      · rw [h4] at e; injection e with e; have := Blk.lt bg5; omega
                    clear hZ hR h2
                    have hZ := hZn
                    have hR := hRn
                    clear hZn hRn h3 h4
                    clear bg5 eg5
                    have bg5 := bg5n
                    have eg5 := eg5n
                    clear bg5n eg5n
                    refine hK.out _ _ ?_ (fun hHeld => ?_)
                    focus ((try dsimp only); exact HS7.out _ hZ)
                    clear hK K
                    try simp only [Act.put, List.getElem_toArray, List.getElem_cons_zero, List.getElem_cons_succ, List.setIfInBounds_toArray, List.set_cons_zero, List.set_cons_succ]
                    refine wpAnyH_ready (rs := [7, 11]) (by kernel_rfl) (by simp) ?_
                    refine AllReadyH.cons rfl (fun K hK => ?_) ?_
                    ·
                      have hpubs : RPubs c52 v6 (L ++ [⟨X + 1, q.doc⟩]) := RPubs.of_rows (xs := xs ++ (#[.int .i64 (X + 1), .string ⟨#[]⟩, .string ⟨#[]⟩, .int .i64 0, .string E, .slice tuo q.doc.tups.length tc, .slice noo q.doc.notes.length nc] : Array Value).toList) (by rw [List.length_append]; exact RRow.of_own hR) (PubRows.snoc (HXP.out.below (HBz.out.trans (hZ.mono HBz.out.size)) (Nat.le_refl _)) ⟨⟨#[]⟩, ⟨#[]⟩, 0, _, _, by rw [HSE.out], HKT.out.1.below (HBz.out.trans (hZ.mono HBz.out.size)) (Nat.le_refl _), RRow.below HKT.out.2 (HBz.out.trans (hZ.mono HBz.out.size)) (Nat.le_refl _)⟩)
                      go_simp
                      go_at_call 7
                      refine (HC3.out _ (HM.out.below (HBz.out.trans (hZ.mono HBz.out.size))) _ hpubs).mono ?_
                      rintro e c53 ⟨u1, u2, rfl, k1, k2, fr1, fr2, hC⟩
                      have HK2 := Lib.hid (And.intro k1 k2)
                      obtain ⟨co, cc, rfl, hcc⟩ := k1.cap
                      obtain ⟨eo, ec, rfl, hec⟩ := k2.cap
                      have hZn := hZ.trans (hC.mono hZ.size)
                      clear hZ hR bg5 eg5 k1 k2 fr1 fr2 hC hpubs
                      have hZ := hZn
                      clear hZn
                      (try dsimp only)
                      refine hK.out _ _ ?_ (fun hHeld => ?_)
                      focus ((try dsimp only); exact HS7.out _ hZ)
                      clear hK K
                      try simp only [Act.put, List.getElem_toArray, List.getElem_cons_zero, List.getElem_cons_succ, List.setIfInBounds_toArray, List.set_cons_zero, List.set_cons_succ]
                      refine wpAnyH_take (i := 8) (v := ?_) rfl (by kernel_rfl) (by kernel_rfl) (by kernel_rfl) (fun _ _ _ h => h) (Or.inl ⟨by rfl, ?_⟩) (by assumption) ?_
                      rotate_left
                      focus (intro _ hSw; (try dsimp only at hSw); go_simp; try (with_reducible rfl))
                      try simp only [Act.put, List.getElem_toArray, List.getElem_cons_zero, List.getElem_cons_succ, List.setIfInBounds_toArray, List.set_cons_zero, List.set_cons_succ]
                      refine wpAnyH_take (i := 9) (v := ?_) rfl (by kernel_rfl) (by kernel_rfl) (by kernel_rfl) (fun _ _ _ h => h) (Or.inl ⟨by rfl, ?_⟩) (by assumption) ?_
                      rotate_left
                      focus (intro _ hSw; (try dsimp only at hSw); go_simp; try (with_reducible rfl))
                      try simp only [Act.put, List.getElem_toArray, List.getElem_cons_zero, List.getElem_cons_succ, List.setIfInBounds_toArray, List.set_cons_zero, List.set_cons_succ]
                      refine wpAnyH_take (i := 10) (v := ?_) rfl (by kernel_rfl) (by kernel_rfl) (by kernel_rfl) (fun _ _ _ h => h) (Or.inl ⟨by rfl, ?_⟩) (by assumption) ?_
                      rotate_left
                      focus (intro _ hSw; (try dsimp only at hSw); go_simp; try (with_reducible rfl))
                      try simp only [Act.put, List.getElem_toArray, List.getElem_cons_zero, List.getElem_cons_succ, List.setIfInBounds_toArray, List.set_cons_zero, List.set_cons_succ]
                      refine wpAnyH_ready (rs := [11]) (by kernel_rfl) (by simp) ?_
                      refine AllReadyH.cons rfl (fun K hK => ?_) ?_
                      ·
                        obtain ⟨gN, hgN⟩ : ∃ g, g = c53.heap.size := ⟨_, rfl⟩
                        obtain ⟨c54, hc54⟩ : ∃ z, z = c53.alloc (.cells #[.string ⟨#[]⟩, .slice none 0 0, .slice none 0 0] 25) := ⟨_, rfl⟩
                        have hZn : Below z0.heap.size z0 c54 := by rw [hc54]; exact hZ.alloc hZ.size _
                        have bgNn : Blk c54 gN 25 #[.string ⟨#[]⟩, .slice none 0 0, .slice none 0 0] := by rw [hc54, hgN]; exact Blk.new _ _ _
                        have HK2n := Lib.hid (show RTups c54 (.slice co A.1.tups.length cc) A.1.tups ∧ RStrs c54 (.slice eo A.1.notes.length ec) A.1.notes from by rw [hc54]; exact ⟨HK2.out.1.below ((Below.refl c53.heap.size c53).alloc (Nat.le_refl _) _) (Nat.le_refl _), RRow.below HK2.out.2 ((Below.refl c53.heap.size c53).alloc (Nat.le_refl _) _) (Nat.le_refl _)⟩)
                        have hOf : Offs gN (.slice co A.1.tups.length cc) A.1.tups ∧ Offs gN (.slice eo A.1.notes.length ec) A.1.notes := ⟨RRow.offT HK2.out.1 (Nat.le_of_eq hgN.symm), RRow.offS HK2.out.2 (Nat.le_of_eq hgN.symm)⟩
                        have fN : z0.heap.size ≤ gN := by rw [hgN]; exact hZ.size
                        go_simp
                        refine hK.out _ _ ?_ (fun hHeld => ?_)
                        focus ((try dsimp only); first | exact HS7.out _ hZn | (rw [← hc54]; exact HS7.out _ hZn))
                        clear hK K
                        try simp only [Act.put, List.getElem_toArray, List.getElem_cons_zero, List.getElem_cons_succ, List.setIfInBounds_toArray, List.set_cons_zero, List.set_cons_succ]
                        rw [← hc54] at hHeld ⊢
                        try simp only [← hgN]
                        clear hZ
                        have hZ := hZn
                        clear hZn
                        have bgN := bgNn
                        clear bgNn
                        clear HK2
                        have HK2 := HK2n
                        clear HK2n
                        clear hc54 hgN
                        refine wpAnyH_ready (rs := [12]) (by kernel_rfl) (by simp) ?_
                        refine AllReadyH.cons rfl (fun K hK => ?_) ?_
                        ·
                          rw [if_pos (by rfl)]
                          refine wp_store_row _ _ _ rfl _ #[sv A.1.ent, .slice co A.1.tups.length cc, .slice eo A.1.notes.length ec] rfl rfl _ _ bgN (by kernel_rfl) (by rfl) (by kernel_rfl) ?_
                          try go_simp
                          refine hK.out _ _ ?_ (fun hHeld => ?_)
                          focus ((try dsimp only); exact HS7.out _ (Below.setRow hZ fN _))
                          clear hK K
                          try simp only [Act.put, List.getElem_toArray, List.getElem_cons_zero, List.getElem_cons_succ, List.setIfInBounds_toArray, List.set_cons_zero, List.set_cons_succ]
                          obtain ⟨c55, hc55⟩ : ∃ z, z = World.setRow c54 gN #[sv A.1.ent, .slice co A.1.tups.length cc, .slice eo A.1.notes.length ec] := ⟨_, rfl⟩
                          have hZf : Below z0.heap.size z0 c55 := by rw [hc55]; exact Below.setRow hZ fN _
                          have bF : Blk c55 gN 25 #[sv A.1.ent, .slice co A.1.tups.length cc, .slice eo A.1.notes.length ec] := by rw [hc55]; exact Blk.row bgN _
                          have HKF := Lib.hid (show RTups c55 (.slice co A.1.tups.length cc) A.1.tups ∧ RStrs c55 (.slice eo A.1.notes.length ec) A.1.notes from by rw [hc55]; exact ⟨RRow.rowT HK2.out.1 hOf.1, RRow.rowS HK2.out.2 hOf.2⟩)
                          rw [← hc55] at hHeld ⊢
                          clear hc55 hZ bgN HK2 hOf fN
                          obtain ⟨wf, hwf⟩ : ∃ z, z = c55 := ⟨_, rfl⟩
                          subst hwf
                          refine wpAnyH_take (i := 13) (v := ?_) rfl (by kernel_rfl) (by kernel_rfl) (by kernel_rfl) (fun _ _ _ h => h) (Or.inl ⟨by rfl, ?_⟩) (by assumption) ?_
                          rotate_left
                          focus (intro _ hSw; (try dsimp only at hSw); go_simp; try (with_reducible rfl))
                          try simp only [Act.put, List.getElem_toArray, List.getElem_cons_zero, List.getElem_cons_succ, List.setIfInBounds_toArray, List.set_cons_zero, List.set_cons_succ]
                          refine wpAnyH_done (by kernel_rfl) ?_ _
                          have hZ := hZf
                          clear hZf
                          have hBF := HBz.out.trans (hZ.mono HBz.out.size)
                          have h3F := HB3z.out.trans (hZ.mono HB3z.out.size)
                          have hmF := HM.out.below hBF
                          obtain ⟨p0, p1, p2⟩ := blk_f3T (Blk.call HBA.out h3F)
                          obtain ⟨q0, q1, q2⟩ := blk_f3T bF
                          have hsd := fun wx va vb hx hy => sameDoc_c va vb A.1 A.1 wx hx hy
                          rw [sameDoc_self] at hsd
                          have HSD := Lib.hid hsd
                          have HD1 := Lib.hid (show RDoc _ (.agg #[sv A.1.ent, .slice ao A.1.tups.length ac, .slice bo A.1.notes.length bc]) A.1 from ⟨_, _, rfl, HJ.out.1.below h3F (Nat.le_refl _), RRow.below HJ.out.2 h3F (Nat.le_refl _)⟩)
                          have HD2 := Lib.hid (show RDoc _ (.agg #[sv A.1.ent, .slice co A.1.tups.length cc, .slice eo A.1.notes.length ec]) A.1 from ⟨_, _, rfl, HKF.out.1, HKF.out.2⟩)
                          clear hsd bF hHeld
                          go_wp2_with (first | (go_at_call 9; refine (HSD.out _ _ _ HD1.out HD2.out).mono ?_; rintro e w17 ⟨rfl, hC7⟩; have hm7 := hmF.below hC7) | (go_at_call 8; refine (HAW.out _ hm7).mono ?_; rintro e w18 ⟨rfl, hC8⟩))
                          go_ret
                          exact ⟨rfl, (hBF.trans (hC7.mono hBF.size)).trans (hC8.mono (Nat.le_trans hBF.size hC7.size))⟩
                        exact AllReadyH.nil
                      exact AllReadyH.nil
                    refine AllReadyH.cons rfl (fun K hK => ?_) ?_
                    ·
                      obtain ⟨gN, hgN⟩ : ∃ g, g = c52.heap.size := ⟨_, rfl⟩
                      obtain ⟨c56, hc56⟩ : ∃ z, z = c52.alloc (.cells #[.string ⟨#[]⟩, .slice none 0 0, .slice none 0 0] 25) := ⟨_, rfl⟩
                      have hZn : Below z0.heap.size z0 c56 := by rw [hc56]; exact hZ.alloc hZ.size _
                      have bgNn : Blk c56 gN 25 #[.string ⟨#[]⟩, .slice none 0 0, .slice none 0 0] := by rw [hc56, hgN]; exact Blk.new _ _ _
                      have bg5n : Blk c56 g5 27 #[.int .i64 (X + 1), .string ⟨#[]⟩, .string ⟨#[]⟩, .int .i64 0, .string E, .slice tuo q.doc.tups.length tc, .slice noo q.doc.notes.length nc] := by rw [hc56]; exact Blk.alloc bg5 _
                      have hRn : c56.ownsRow z0.heap.size 27 7 v6 (L.length + 1) (xs ++ (#[.int .i64 (X + 1), .string ⟨#[]⟩, .string ⟨#[]⟩, .int .i64 0, .string E, .slice tuo q.doc.tups.length tc, .slice noo q.doc.notes.length nc] : Array Value).toList) := by rw [hc56]; exact World.ownsRow.alloc hR _
                      have egN : some gN ≠ (Value.ownBlock v6) := fun e => by have := (World.ownsRow.lt hR _ e.symm).2; omega
                      have fN : z0.heap.size ≤ gN := by rw [hgN]; exact hZ.size
                      go_simp
                      refine hK.out _ _ ?_ (fun hHeld => ?_)
                      focus ((try dsimp only); first | exact HS7.out _ hZn | (rw [← hc56]; exact HS7.out _ hZn))
                      clear hK K
                      try simp only [Act.put, List.getElem_toArray, List.getElem_cons_zero, List.getElem_cons_succ, List.setIfInBounds_toArray, List.set_cons_zero, List.set_cons_succ]
                      rw [← hc56] at hHeld ⊢
                      try simp only [← hgN]
                      clear hZ
                      have hZ := hZn
                      clear hZn
                      clear hR
                      have hR := hRn
                      clear hRn
                      clear bg5
                      have bg5 := bg5n
                      clear bg5n
                      have bgN := bgNn
                      clear bgNn
                      clear hc56 hgN
                      refine wpAnyH_ready (rs := [7]) (by kernel_rfl) (by simp) ?_
                      refine AllReadyH.cons rfl (fun K hK => ?_) ?_
                      ·
                        have hpubs : RPubs c56 v6 (L ++ [⟨X + 1, q.doc⟩]) := RPubs.of_rows (xs := xs ++ (#[.int .i64 (X + 1), .string ⟨#[]⟩, .string ⟨#[]⟩, .int .i64 0, .string E, .slice tuo q.doc.tups.length tc, .slice noo q.doc.notes.length nc] : Array Value).toList) (by rw [List.length_append]; exact RRow.of_own hR) (PubRows.snoc (HXP.out.below (HBz.out.trans (hZ.mono HBz.out.size)) (Nat.le_refl _)) ⟨⟨#[]⟩, ⟨#[]⟩, 0, _, _, by rw [HSE.out], HKT.out.1.below (HBz.out.trans (hZ.mono HBz.out.size)) (Nat.le_refl _), RRow.below HKT.out.2 (HBz.out.trans (hZ.mono HBz.out.size)) (Nat.le_refl _)⟩)
                        go_simp
                        go_at_call 7
                        refine (HC3.out _ (HM.out.below (HBz.out.trans (hZ.mono HBz.out.size))) _ hpubs).mono ?_
                        rintro e c57 ⟨u1, u2, rfl, k1, k2, fr1, fr2, hC⟩
                        have HK2 := Lib.hid (And.intro k1 k2)
                        obtain ⟨co, cc, rfl, hcc⟩ := k1.cap
                        obtain ⟨eo, ec, rfl, hec⟩ := k2.cap
                        have hZn := hZ.trans (hC.mono hZ.size)
                        have bgNn := Blk.call bgN hC
                        have hOf : Offs gN (.slice co A.1.tups.length cc) A.1.tups ∧ Offs gN (.slice eo A.1.notes.length ec) A.1.notes := ⟨Offs.fresh fr1 (Blk.lt bgN), Offs.fresh fr2 (Blk.lt bgN)⟩
                        clear bgN egN
                        have bgN := bgNn
                        clear bgNn
                        clear hZ hR bg5 eg5 k1 k2 fr1 fr2 hC hpubs
                        have hZ := hZn
                        clear hZn
                        (try dsimp only)
                        refine hK.out _ _ ?_ (fun hHeld => ?_)
                        focus ((try dsimp only); exact HS7.out _ hZ)
                        clear hK K
                        try simp only [Act.put, List.getElem_toArray, List.getElem_cons_zero, List.getElem_cons_succ, List.setIfInBounds_toArray, List.set_cons_zero, List.set_cons_succ]
                        refine wpAnyH_take (i := 8) (v := ?_) rfl (by kernel_rfl) (by kernel_rfl) (by kernel_rfl) (fun _ _ _ h => h) (Or.inl ⟨by rfl, ?_⟩) (by assumption) ?_
                        rotate_left
                        focus (intro _ hSw; (try dsimp only at hSw); go_simp; try (with_reducible rfl))
                        try simp only [Act.put, List.getElem_toArray, List.getElem_cons_zero, List.getElem_cons_succ, List.setIfInBounds_toArray, List.set_cons_zero, List.set_cons_succ]
                        refine wpAnyH_take (i := 9) (v := ?_) rfl (by kernel_rfl) (by kernel_rfl) (by kernel_rfl) (fun _ _ _ h => h) (Or.inl ⟨by rfl, ?_⟩) (by assumption) ?_
                        rotate_left
                        focus (intro _ hSw; (try dsimp only at hSw); go_simp; try (with_reducible rfl))
                        try simp only [Act.put, List.getElem_toArray, List.getElem_cons_zero, List.getElem_cons_succ, List.setIfInBounds_toArray, List.set_cons_zero, List.set_cons_succ]
                        refine wpAnyH_take (i := 10) (v := ?_) rfl (by kernel_rfl) (by kernel_rfl) (by kernel_rfl) (fun _ _ _ h => h) (Or.inl ⟨by rfl, ?_⟩) (by assumption) ?_
                        rotate_left
                        focus (intro _ hSw; (try dsimp only at hSw); go_simp; try (with_reducible rfl))
                        try simp only [Act.put, List.getElem_toArray, List.getElem_cons_zero, List.getElem_cons_succ, List.setIfInBounds_toArray, List.set_cons_zero, List.set_cons_succ]
                        refine wpAnyH_ready (rs := [12]) (by kernel_rfl) (by simp) ?_
                        refine AllReadyH.cons rfl (fun K hK => ?_) ?_
                        ·
                          rw [if_pos (by rfl)]
                          refine wp_store_row _ _ _ rfl _ #[sv A.1.ent, .slice co A.1.tups.length cc, .slice eo A.1.notes.length ec] rfl rfl _ _ bgN (by kernel_rfl) (by rfl) (by kernel_rfl) ?_
                          try go_simp
                          refine hK.out _ _ ?_ (fun hHeld => ?_)
                          focus ((try dsimp only); exact HS7.out _ (Below.setRow hZ fN _))
                          clear hK K
                          try simp only [Act.put, List.getElem_toArray, List.getElem_cons_zero, List.getElem_cons_succ, List.setIfInBounds_toArray, List.set_cons_zero, List.set_cons_succ]
                          obtain ⟨c58, hc58⟩ : ∃ z, z = World.setRow c57 gN #[sv A.1.ent, .slice co A.1.tups.length cc, .slice eo A.1.notes.length ec] := ⟨_, rfl⟩
                          have hZf : Below z0.heap.size z0 c58 := by rw [hc58]; exact Below.setRow hZ fN _
                          have bF : Blk c58 gN 25 #[sv A.1.ent, .slice co A.1.tups.length cc, .slice eo A.1.notes.length ec] := by rw [hc58]; exact Blk.row bgN _
                          have HKF := Lib.hid (show RTups c58 (.slice co A.1.tups.length cc) A.1.tups ∧ RStrs c58 (.slice eo A.1.notes.length ec) A.1.notes from by rw [hc58]; exact ⟨RRow.rowT HK2.out.1 hOf.1, RRow.rowS HK2.out.2 hOf.2⟩)
                          rw [← hc58] at hHeld ⊢
                          clear hc58 hZ bgN HK2 hOf fN
                          obtain ⟨wf, hwf⟩ : ∃ z, z = c58 := ⟨_, rfl⟩
                          subst hwf
                          refine wpAnyH_take (i := 13) (v := ?_) rfl (by kernel_rfl) (by kernel_rfl) (by kernel_rfl) (fun _ _ _ h => h) (Or.inl ⟨by rfl, ?_⟩) (by assumption) ?_
                          rotate_left
                          focus (intro _ hSw; (try dsimp only at hSw); go_simp; try (with_reducible rfl))
                          try simp only [Act.put, List.getElem_toArray, List.getElem_cons_zero, List.getElem_cons_succ, List.setIfInBounds_toArray, List.set_cons_zero, List.set_cons_succ]
                          refine wpAnyH_done (by kernel_rfl) ?_ _
                          have hZ := hZf
                          clear hZf
                          have hBF := HBz.out.trans (hZ.mono HBz.out.size)
                          have h3F := HB3z.out.trans (hZ.mono HB3z.out.size)
                          have hmF := HM.out.below hBF
                          obtain ⟨p0, p1, p2⟩ := blk_f3T (Blk.call HBA.out h3F)
                          obtain ⟨q0, q1, q2⟩ := blk_f3T bF
                          have hsd := fun wx va vb hx hy => sameDoc_c va vb A.1 A.1 wx hx hy
                          rw [sameDoc_self] at hsd
                          have HSD := Lib.hid hsd
                          have HD1 := Lib.hid (show RDoc _ (.agg #[sv A.1.ent, .slice ao A.1.tups.length ac, .slice bo A.1.notes.length bc]) A.1 from ⟨_, _, rfl, HJ.out.1.below h3F (Nat.le_refl _), RRow.below HJ.out.2 h3F (Nat.le_refl _)⟩)
                          have HD2 := Lib.hid (show RDoc _ (.agg #[sv A.1.ent, .slice co A.1.tups.length cc, .slice eo A.1.notes.length ec]) A.1 from ⟨_, _, rfl, HKF.out.1, HKF.out.2⟩)
                          clear hsd bF hHeld
                          go_wp2_with (first | (go_at_call 9; refine (HSD.out _ _ _ HD1.out HD2.out).mono ?_; rintro e w17 ⟨rfl, hC7⟩; have hm7 := hmF.below hC7) | (go_at_call 8; refine (HAW.out _ hm7).mono ?_; rintro e w18 ⟨rfl, hC8⟩))
                          go_ret
                          exact ⟨rfl, (hBF.trans (hC7.mono hBF.size)).trans (hC8.mono (Nat.le_trans hBF.size hC7.size))⟩
                        exact AllReadyH.nil
                      exact AllReadyH.nil
                    exact AllReadyH.nil
                  refine AllReadyH.cons rfl (fun K hK => ?_) ?_
                  ·
                    obtain ⟨gN, hgN⟩ : ∃ g, g = c51.heap.size := ⟨_, rfl⟩
                    obtain ⟨c59, hc59⟩ : ∃ z, z = c51.alloc (.cells #[.string ⟨#[]⟩, .slice none 0 0, .slice none 0 0] 25) := ⟨_, rfl⟩
                    have hZn : Below z0.heap.size z0 c59 := by rw [hc59]; exact hZ.alloc hZ.size _
                    have bgNn : Blk c59 gN 25 #[.string ⟨#[]⟩, .slice none 0 0, .slice none 0 0] := by rw [hc59, hgN]; exact Blk.new _ _ _
                    have bg5n : Blk c59 g5 27 #[.int .i64 (X + 1), .string ⟨#[]⟩, .string ⟨#[]⟩, .int .i64 0, .string E, .slice tuo q.doc.tups.length tc, .slice noo q.doc.notes.length nc] := by rw [hc59]; exact Blk.alloc bg5 _
                    have hRn : c59.ownsRow z0.heap.size 27 7 v3 L.length xs := by rw [hc59]; exact World.ownsRow.alloc hR _
                    have egN : some gN ≠ (Value.ownBlock v3) := fun e => by have := (World.ownsRow.lt hR _ e.symm).2; omega
                    have fN : z0.heap.size ≤ gN := by rw [hgN]; exact hZ.size
                    go_simp
                    refine hK.out _ _ ?_ (fun hHeld => ?_)
                    focus ((try dsimp only); first | exact HS7.out _ hZn | (rw [← hc59]; exact HS7.out _ hZn))
                    clear hK K
                    try simp only [Act.put, List.getElem_toArray, List.getElem_cons_zero, List.getElem_cons_succ, List.setIfInBounds_toArray, List.set_cons_zero, List.set_cons_succ]
                    rw [← hc59] at hHeld ⊢
                    try simp only [← hgN]
                    clear hZ
                    have hZ := hZn
                    clear hZn
                    clear hR
                    have hR := hRn
                    clear hRn
                    clear bg5
                    have bg5 := bg5n
                    clear bg5n
                    have bgN := bgNn
                    clear bgNn
                    clear hc59 hgN
                    refine wpAnyH_ready (rs := [6]) (by kernel_rfl) (by simp) ?_
                    refine AllReadyH.cons rfl (fun K hK => ?_) ?_
                    ·
                      refine op_appG (base := z0.heap.size) (v := v3) (n := L.length) (xs := xs) (news := (#[.int .i64 (X + 1), .string ⟨#[]⟩, .string ⟨#[]⟩, .int .i64 0, .string E, .slice tuo q.doc.tups.length tc, .slice noo q.doc.notes.length nc] : Array Value).toList) (ad := ⟨g5, 0, none⟩) (m := 1) (c := 1) rfl Tryd.underlying31 infoPub rfl (by decide) rfl rfl hR (by decide) rfl (fun j u hj => by rw [add_cell]; have := boxedCell bg5 (0 + j); rw [this]; simpa using hj) (by intro u hu; simp at hu; rcases hu with rfl | rfl | rfl | rfl | rfl | rfl | rfl <;> rfl) (by decide) (by omega) hZ.size (fun v6 c60 h2 h3 h4 => ?_)
                      have hZn := hZ.grown h3 hZ.size (fun k hk => (World.ownsRow.lt hR k hk).1)
                      have hRn := h2
                      have bg5n := blk_grownO bg5 h3 eg5
                      have eg5n : some g5 ≠ Value.ownBlock v6 := fun e => by
                        rcases h4 with h4 | h4
                        · exact eg5 (e.trans h4)
                        · rw [h4] at e; injection e with e; have := Blk.lt bg5; omega
                      have bgNn := blk_grownO bgN h3 egN
                      have egNn : some gN ≠ Value.ownBlock v6 := fun e => by
                        rcases h4 with h4 | h4
                        · exact egN (e.trans h4)
                        · rw [h4] at e; injection e with e; have := Blk.lt bgN; omega
                      clear hZ hR h2
                      have hZ := hZn
                      have hR := hRn
                      clear hZn hRn h3 h4
                      clear bg5 eg5
                      have bg5 := bg5n
                      have eg5 := eg5n
                      clear bg5n eg5n
                      clear bgN egN
                      have bgN := bgNn
                      have egN := egNn
                      clear bgNn egNn
                      refine hK.out _ _ ?_ (fun hHeld => ?_)
                      focus ((try dsimp only); exact HS7.out _ hZ)
                      clear hK K
                      try simp only [Act.put, List.getElem_toArray, List.getElem_cons_zero, List.getElem_cons_succ, List.setIfInBounds_toArray, List.set_cons_zero, List.set_cons_succ]
                      refine wpAnyH_ready (rs := [7]) (by kernel_rfl) (by simp) ?_
                      refine AllReadyH.cons rfl (fun K hK => ?_) ?_
                      ·
                        have hpubs : RPubs c60 v6 (L ++ [⟨X + 1, q.doc⟩]) := RPubs.of_rows (xs := xs ++ (#[.int .i64 (X + 1), .string ⟨#[]⟩, .string ⟨#[]⟩, .int .i64 0, .string E, .slice tuo q.doc.tups.length tc, .slice noo q.doc.notes.length nc] : Array Value).toList) (by rw [List.length_append]; exact RRow.of_own hR) (PubRows.snoc (HXP.out.below (HBz.out.trans (hZ.mono HBz.out.size)) (Nat.le_refl _)) ⟨⟨#[]⟩, ⟨#[]⟩, 0, _, _, by rw [HSE.out], HKT.out.1.below (HBz.out.trans (hZ.mono HBz.out.size)) (Nat.le_refl _), RRow.below HKT.out.2 (HBz.out.trans (hZ.mono HBz.out.size)) (Nat.le_refl _)⟩)
                        go_simp
                        go_at_call 7
                        refine (HC3.out _ (HM.out.below (HBz.out.trans (hZ.mono HBz.out.size))) _ hpubs).mono ?_
                        rintro e c61 ⟨u1, u2, rfl, k1, k2, fr1, fr2, hC⟩
                        have HK2 := Lib.hid (And.intro k1 k2)
                        obtain ⟨co, cc, rfl, hcc⟩ := k1.cap
                        obtain ⟨eo, ec, rfl, hec⟩ := k2.cap
                        have hZn := hZ.trans (hC.mono hZ.size)
                        have bgNn := Blk.call bgN hC
                        have hOf : Offs gN (.slice co A.1.tups.length cc) A.1.tups ∧ Offs gN (.slice eo A.1.notes.length ec) A.1.notes := ⟨Offs.fresh fr1 (Blk.lt bgN), Offs.fresh fr2 (Blk.lt bgN)⟩
                        clear bgN egN
                        have bgN := bgNn
                        clear bgNn
                        clear hZ hR bg5 eg5 k1 k2 fr1 fr2 hC hpubs
                        have hZ := hZn
                        clear hZn
                        (try dsimp only)
                        refine hK.out _ _ ?_ (fun hHeld => ?_)
                        focus ((try dsimp only); exact HS7.out _ hZ)
                        clear hK K
                        try simp only [Act.put, List.getElem_toArray, List.getElem_cons_zero, List.getElem_cons_succ, List.setIfInBounds_toArray, List.set_cons_zero, List.set_cons_succ]
                        refine wpAnyH_take (i := 8) (v := ?_) rfl (by kernel_rfl) (by kernel_rfl) (by kernel_rfl) (fun _ _ _ h => h) (Or.inl ⟨by rfl, ?_⟩) (by assumption) ?_
                        rotate_left
                        focus (intro _ hSw; (try dsimp only at hSw); go_simp; try (with_reducible rfl))
                        try simp only [Act.put, List.getElem_toArray, List.getElem_cons_zero, List.getElem_cons_succ, List.setIfInBounds_toArray, List.set_cons_zero, List.set_cons_succ]
                        refine wpAnyH_take (i := 9) (v := ?_) rfl (by kernel_rfl) (by kernel_rfl) (by kernel_rfl) (fun _ _ _ h => h) (Or.inl ⟨by rfl, ?_⟩) (by assumption) ?_
                        rotate_left
                        focus (intro _ hSw; (try dsimp only at hSw); go_simp; try (with_reducible rfl))
                        try simp only [Act.put, List.getElem_toArray, List.getElem_cons_zero, List.getElem_cons_succ, List.setIfInBounds_toArray, List.set_cons_zero, List.set_cons_succ]
                        refine wpAnyH_take (i := 10) (v := ?_) rfl (by kernel_rfl) (by kernel_rfl) (by kernel_rfl) (fun _ _ _ h => h) (Or.inl ⟨by rfl, ?_⟩) (by assumption) ?_
                        rotate_left
                        focus (intro _ hSw; (try dsimp only at hSw); go_simp; try (with_reducible rfl))
                        try simp only [Act.put, List.getElem_toArray, List.getElem_cons_zero, List.getElem_cons_succ, List.setIfInBounds_toArray, List.set_cons_zero, List.set_cons_succ]
                        refine wpAnyH_ready (rs := [12]) (by kernel_rfl) (by simp) ?_
                        refine AllReadyH.cons rfl (fun K hK => ?_) ?_
                        ·
                          rw [if_pos (by rfl)]
                          refine wp_store_row _ _ _ rfl _ #[sv A.1.ent, .slice co A.1.tups.length cc, .slice eo A.1.notes.length ec] rfl rfl _ _ bgN (by kernel_rfl) (by rfl) (by kernel_rfl) ?_
                          try go_simp
                          refine hK.out _ _ ?_ (fun hHeld => ?_)
                          focus ((try dsimp only); exact HS7.out _ (Below.setRow hZ fN _))
                          clear hK K
                          try simp only [Act.put, List.getElem_toArray, List.getElem_cons_zero, List.getElem_cons_succ, List.setIfInBounds_toArray, List.set_cons_zero, List.set_cons_succ]
                          obtain ⟨c62, hc62⟩ : ∃ z, z = World.setRow c61 gN #[sv A.1.ent, .slice co A.1.tups.length cc, .slice eo A.1.notes.length ec] := ⟨_, rfl⟩
                          have hZf : Below z0.heap.size z0 c62 := by rw [hc62]; exact Below.setRow hZ fN _
                          have bF : Blk c62 gN 25 #[sv A.1.ent, .slice co A.1.tups.length cc, .slice eo A.1.notes.length ec] := by rw [hc62]; exact Blk.row bgN _
                          have HKF := Lib.hid (show RTups c62 (.slice co A.1.tups.length cc) A.1.tups ∧ RStrs c62 (.slice eo A.1.notes.length ec) A.1.notes from by rw [hc62]; exact ⟨RRow.rowT HK2.out.1 hOf.1, RRow.rowS HK2.out.2 hOf.2⟩)
                          rw [← hc62] at hHeld ⊢
                          clear hc62 hZ bgN HK2 hOf fN
                          obtain ⟨wf, hwf⟩ : ∃ z, z = c62 := ⟨_, rfl⟩
                          subst hwf
                          refine wpAnyH_take (i := 13) (v := ?_) rfl (by kernel_rfl) (by kernel_rfl) (by kernel_rfl) (fun _ _ _ h => h) (Or.inl ⟨by rfl, ?_⟩) (by assumption) ?_
                          rotate_left
                          focus (intro _ hSw; (try dsimp only at hSw); go_simp; try (with_reducible rfl))
                          try simp only [Act.put, List.getElem_toArray, List.getElem_cons_zero, List.getElem_cons_succ, List.setIfInBounds_toArray, List.set_cons_zero, List.set_cons_succ]
                          refine wpAnyH_done (by kernel_rfl) ?_ _
                          have hZ := hZf
                          clear hZf
                          have hBF := HBz.out.trans (hZ.mono HBz.out.size)
                          have h3F := HB3z.out.trans (hZ.mono HB3z.out.size)
                          have hmF := HM.out.below hBF
                          obtain ⟨p0, p1, p2⟩ := blk_f3T (Blk.call HBA.out h3F)
                          obtain ⟨q0, q1, q2⟩ := blk_f3T bF
                          have hsd := fun wx va vb hx hy => sameDoc_c va vb A.1 A.1 wx hx hy
                          rw [sameDoc_self] at hsd
                          have HSD := Lib.hid hsd
                          have HD1 := Lib.hid (show RDoc _ (.agg #[sv A.1.ent, .slice ao A.1.tups.length ac, .slice bo A.1.notes.length bc]) A.1 from ⟨_, _, rfl, HJ.out.1.below h3F (Nat.le_refl _), RRow.below HJ.out.2 h3F (Nat.le_refl _)⟩)
                          have HD2 := Lib.hid (show RDoc _ (.agg #[sv A.1.ent, .slice co A.1.tups.length cc, .slice eo A.1.notes.length ec]) A.1 from ⟨_, _, rfl, HKF.out.1, HKF.out.2⟩)
                          clear hsd bF hHeld
                          go_wp2_with (first | (go_at_call 9; refine (HSD.out _ _ _ HD1.out HD2.out).mono ?_; rintro e w17 ⟨rfl, hC7⟩; have hm7 := hmF.below hC7) | (go_at_call 8; refine (HAW.out _ hm7).mono ?_; rintro e w18 ⟨rfl, hC8⟩))
                          go_ret
                          exact ⟨rfl, (hBF.trans (hC7.mono hBF.size)).trans (hC8.mono (Nat.le_trans hBF.size hC7.size))⟩
                        exact AllReadyH.nil
                      exact AllReadyH.nil
                    exact AllReadyH.nil
                  exact AllReadyH.nil
                refine AllReadyH.cons rfl (fun K hK => ?_) ?_
                ·
                  obtain ⟨gN, hgN⟩ : ∃ g, g = c50.heap.size := ⟨_, rfl⟩
                  obtain ⟨c63, hc63⟩ : ∃ z, z = c50.alloc (.cells #[.string ⟨#[]⟩, .slice none 0 0, .slice none 0 0] 25) := ⟨_, rfl⟩
                  have hZn : Below z0.heap.size z0 c63 := by rw [hc63]; exact hZ.alloc hZ.size _
                  have bgNn : Blk c63 gN 25 #[.string ⟨#[]⟩, .slice none 0 0, .slice none 0 0] := by rw [hc63, hgN]; exact Blk.new _ _ _
                  have bg5n : Blk c63 g5 27 #[.int .i64 (X + 1), .string ⟨#[]⟩, .string ⟨#[]⟩, .int .i64 0, .string E, .slice tuo q.doc.tups.length tc, .slice noo q.doc.notes.length nc] := by rw [hc63]; exact Blk.alloc bg5 _
                  have hRn : c63.ownsRow z0.heap.size 27 7 (.slice (some ⟨g1, 0, none⟩) 0 0) 0 [] := by rw [hc63]; exact World.ownsRow.alloc hR _
                  have egN : some gN ≠ (Value.ownBlock (.slice (some ⟨g1, 0, none⟩) 0 0)) := fun e => by have := (World.ownsRow.lt hR _ e.symm).2; omega
                  have fN : z0.heap.size ≤ gN := by rw [hgN]; exact hZ.size
                  go_simp
                  refine hK.out _ _ ?_ (fun hHeld => ?_)
                  focus ((try dsimp only); first | exact HS7.out _ hZn | (rw [← hc63]; exact HS7.out _ hZn))
                  clear hK K
                  try simp only [Act.put, List.getElem_toArray, List.getElem_cons_zero, List.getElem_cons_succ, List.setIfInBounds_toArray, List.set_cons_zero, List.set_cons_succ]
                  rw [← hc63] at hHeld ⊢
                  try simp only [← hgN]
                  clear hZ
                  have hZ := hZn
                  clear hZn
                  clear hR
                  have hR := hRn
                  clear hRn
                  clear bg5
                  have bg5 := bg5n
                  clear bg5n
                  have bgN := bgNn
                  clear bgNn
                  clear hc63 hgN
                  refine wpAnyH_ready (rs := [3]) (by kernel_rfl) (by simp) ?_
                  refine AllReadyH.cons rfl (fun K hK => ?_) ?_
                  ·
                    refine op_appG (base := z0.heap.size) (v := (.slice (some ⟨g1, 0, none⟩) 0 0)) (n := 0) (xs := []) (news := xs) (ad := ⟨b, off, none⟩) (m := L.length) (c := pc) rfl Tryd.underlying31 infoPub rfl (by decide) rfl rfl hR (by omega) HXL.out (HXC.out _ (HBz.out.trans (hZ.mono HBz.out.size))) HX1.out (by decide) (by omega) hZ.size (fun v3 c64 h2 h3 h4 => ?_)
                    have hZn := hZ.grown h3 hZ.size (fun k hk => (World.ownsRow.lt hR k hk).1)
                    have hRn : c64.ownsRow z0.heap.size 27 7 v3 L.length xs := by simpa using h2
                    have bg5n := blk_grownO bg5 h3 eg5
                    have eg5n : some g5 ≠ Value.ownBlock v3 := fun e => by
                      rcases h4 with h4 | h4
                      · exact eg5 (e.trans h4)
                      · rw [h4] at e; injection e with e; have := Blk.lt bg5; omega
                    have bgNn := blk_grownO bgN h3 egN
                    have egNn : some gN ≠ Value.ownBlock v3 := fun e => by
                      rcases h4 with h4 | h4
                      · exact egN (e.trans h4)
                      · rw [h4] at e; injection e with e; have := Blk.lt bgN; omega
                    clear hZ hR h2
                    have hZ := hZn
                    have hR := hRn
                    clear hZn hRn h3 h4
                    clear bg5 eg5
                    have bg5 := bg5n
                    have eg5 := eg5n
                    clear bg5n eg5n
                    clear bgN egN
                    have bgN := bgNn
                    have egN := egNn
                    clear bgNn egNn
                    refine hK.out _ _ ?_ (fun hHeld => ?_)
                    focus ((try dsimp only); exact HS7.out _ hZ)
                    clear hK K
                    try simp only [Act.put, List.getElem_toArray, List.getElem_cons_zero, List.getElem_cons_succ, List.setIfInBounds_toArray, List.set_cons_zero, List.set_cons_succ]
                    refine wpAnyH_ready (rs := [6]) (by kernel_rfl) (by simp) ?_
                    refine AllReadyH.cons rfl (fun K hK => ?_) ?_
                    ·
                      refine op_appG (base := z0.heap.size) (v := v3) (n := L.length) (xs := xs) (news := (#[.int .i64 (X + 1), .string ⟨#[]⟩, .string ⟨#[]⟩, .int .i64 0, .string E, .slice tuo q.doc.tups.length tc, .slice noo q.doc.notes.length nc] : Array Value).toList) (ad := ⟨g5, 0, none⟩) (m := 1) (c := 1) rfl Tryd.underlying31 infoPub rfl (by decide) rfl rfl hR (by decide) rfl (fun j u hj => by rw [add_cell]; have := boxedCell bg5 (0 + j); rw [this]; simpa using hj) (by intro u hu; simp at hu; rcases hu with rfl | rfl | rfl | rfl | rfl | rfl | rfl <;> rfl) (by decide) (by omega) hZ.size (fun v6 c65 h2 h3 h4 => ?_)
                      have hZn := hZ.grown h3 hZ.size (fun k hk => (World.ownsRow.lt hR k hk).1)
                      have hRn := h2
                      have bg5n := blk_grownO bg5 h3 eg5
                      have eg5n : some g5 ≠ Value.ownBlock v6 := fun e => by
                        rcases h4 with h4 | h4
                        · exact eg5 (e.trans h4)
                        · rw [h4] at e; injection e with e; have := Blk.lt bg5; omega
                      have bgNn := blk_grownO bgN h3 egN
                      have egNn : some gN ≠ Value.ownBlock v6 := fun e => by
                        rcases h4 with h4 | h4
                        · exact egN (e.trans h4)
                        · rw [h4] at e; injection e with e; have := Blk.lt bgN; omega
                      clear hZ hR h2
                      have hZ := hZn
                      have hR := hRn
                      clear hZn hRn h3 h4
                      clear bg5 eg5
                      have bg5 := bg5n
                      have eg5 := eg5n
                      clear bg5n eg5n
                      clear bgN egN
                      have bgN := bgNn
                      have egN := egNn
                      clear bgNn egNn
                      refine hK.out _ _ ?_ (fun hHeld => ?_)
                      focus ((try dsimp only); exact HS7.out _ hZ)
                      clear hK K
                      try simp only [Act.put, List.getElem_toArray, List.getElem_cons_zero, List.getElem_cons_succ, List.setIfInBounds_toArray, List.set_cons_zero, List.set_cons_succ]
                      refine wpAnyH_ready (rs := [7]) (by kernel_rfl) (by simp) ?_
                      refine AllReadyH.cons rfl (fun K hK => ?_) ?_
                      ·
                        have hpubs : RPubs c65 v6 (L ++ [⟨X + 1, q.doc⟩]) := RPubs.of_rows (xs := xs ++ (#[.int .i64 (X + 1), .string ⟨#[]⟩, .string ⟨#[]⟩, .int .i64 0, .string E, .slice tuo q.doc.tups.length tc, .slice noo q.doc.notes.length nc] : Array Value).toList) (by rw [List.length_append]; exact RRow.of_own hR) (PubRows.snoc (HXP.out.below (HBz.out.trans (hZ.mono HBz.out.size)) (Nat.le_refl _)) ⟨⟨#[]⟩, ⟨#[]⟩, 0, _, _, by rw [HSE.out], HKT.out.1.below (HBz.out.trans (hZ.mono HBz.out.size)) (Nat.le_refl _), RRow.below HKT.out.2 (HBz.out.trans (hZ.mono HBz.out.size)) (Nat.le_refl _)⟩)
                        go_simp
                        go_at_call 7
                        refine (HC3.out _ (HM.out.below (HBz.out.trans (hZ.mono HBz.out.size))) _ hpubs).mono ?_
                        rintro e c66 ⟨u1, u2, rfl, k1, k2, fr1, fr2, hC⟩
                        have HK2 := Lib.hid (And.intro k1 k2)
                        obtain ⟨co, cc, rfl, hcc⟩ := k1.cap
                        obtain ⟨eo, ec, rfl, hec⟩ := k2.cap
                        have hZn := hZ.trans (hC.mono hZ.size)
                        have bgNn := Blk.call bgN hC
                        have hOf : Offs gN (.slice co A.1.tups.length cc) A.1.tups ∧ Offs gN (.slice eo A.1.notes.length ec) A.1.notes := ⟨Offs.fresh fr1 (Blk.lt bgN), Offs.fresh fr2 (Blk.lt bgN)⟩
                        clear bgN egN
                        have bgN := bgNn
                        clear bgNn
                        clear hZ hR bg5 eg5 k1 k2 fr1 fr2 hC hpubs
                        have hZ := hZn
                        clear hZn
                        (try dsimp only)
                        refine hK.out _ _ ?_ (fun hHeld => ?_)
                        focus ((try dsimp only); exact HS7.out _ hZ)
                        clear hK K
                        try simp only [Act.put, List.getElem_toArray, List.getElem_cons_zero, List.getElem_cons_succ, List.setIfInBounds_toArray, List.set_cons_zero, List.set_cons_succ]
                        refine wpAnyH_take (i := 8) (v := ?_) rfl (by kernel_rfl) (by kernel_rfl) (by kernel_rfl) (fun _ _ _ h => h) (Or.inl ⟨by rfl, ?_⟩) (by assumption) ?_
                        rotate_left
                        focus (intro _ hSw; (try dsimp only at hSw); go_simp; try (with_reducible rfl))
                        try simp only [Act.put, List.getElem_toArray, List.getElem_cons_zero, List.getElem_cons_succ, List.setIfInBounds_toArray, List.set_cons_zero, List.set_cons_succ]
                        refine wpAnyH_take (i := 9) (v := ?_) rfl (by kernel_rfl) (by kernel_rfl) (by kernel_rfl) (fun _ _ _ h => h) (Or.inl ⟨by rfl, ?_⟩) (by assumption) ?_
                        rotate_left
                        focus (intro _ hSw; (try dsimp only at hSw); go_simp; try (with_reducible rfl))
                        try simp only [Act.put, List.getElem_toArray, List.getElem_cons_zero, List.getElem_cons_succ, List.setIfInBounds_toArray, List.set_cons_zero, List.set_cons_succ]
                        refine wpAnyH_take (i := 10) (v := ?_) rfl (by kernel_rfl) (by kernel_rfl) (by kernel_rfl) (fun _ _ _ h => h) (Or.inl ⟨by rfl, ?_⟩) (by assumption) ?_
                        rotate_left
                        focus (intro _ hSw; (try dsimp only at hSw); go_simp; try (with_reducible rfl))
                        try simp only [Act.put, List.getElem_toArray, List.getElem_cons_zero, List.getElem_cons_succ, List.setIfInBounds_toArray, List.set_cons_zero, List.set_cons_succ]
                        refine wpAnyH_ready (rs := [12]) (by kernel_rfl) (by simp) ?_
                        refine AllReadyH.cons rfl (fun K hK => ?_) ?_
                        ·
                          rw [if_pos (by rfl)]
                          refine wp_store_row _ _ _ rfl _ #[sv A.1.ent, .slice co A.1.tups.length cc, .slice eo A.1.notes.length ec] rfl rfl _ _ bgN (by kernel_rfl) (by rfl) (by kernel_rfl) ?_
                          try go_simp
                          refine hK.out _ _ ?_ (fun hHeld => ?_)
                          focus ((try dsimp only); exact HS7.out _ (Below.setRow hZ fN _))
                          clear hK K
                          try simp only [Act.put, List.getElem_toArray, List.getElem_cons_zero, List.getElem_cons_succ, List.setIfInBounds_toArray, List.set_cons_zero, List.set_cons_succ]
                          obtain ⟨c67, hc67⟩ : ∃ z, z = World.setRow c66 gN #[sv A.1.ent, .slice co A.1.tups.length cc, .slice eo A.1.notes.length ec] := ⟨_, rfl⟩
                          have hZf : Below z0.heap.size z0 c67 := by rw [hc67]; exact Below.setRow hZ fN _
                          have bF : Blk c67 gN 25 #[sv A.1.ent, .slice co A.1.tups.length cc, .slice eo A.1.notes.length ec] := by rw [hc67]; exact Blk.row bgN _
                          have HKF := Lib.hid (show RTups c67 (.slice co A.1.tups.length cc) A.1.tups ∧ RStrs c67 (.slice eo A.1.notes.length ec) A.1.notes from by rw [hc67]; exact ⟨RRow.rowT HK2.out.1 hOf.1, RRow.rowS HK2.out.2 hOf.2⟩)
                          rw [← hc67] at hHeld ⊢
                          clear hc67 hZ bgN HK2 hOf fN
                          obtain ⟨wf, hwf⟩ : ∃ z, z = c67 := ⟨_, rfl⟩
                          subst hwf
                          refine wpAnyH_take (i := 13) (v := ?_) rfl (by kernel_rfl) (by kernel_rfl) (by kernel_rfl) (fun _ _ _ h => h) (Or.inl ⟨by rfl, ?_⟩) (by assumption) ?_
                          rotate_left
                          focus (intro _ hSw; (try dsimp only at hSw); go_simp; try (with_reducible rfl))
                          try simp only [Act.put, List.getElem_toArray, List.getElem_cons_zero, List.getElem_cons_succ, List.setIfInBounds_toArray, List.set_cons_zero, List.set_cons_succ]
                          refine wpAnyH_done (by kernel_rfl) ?_ _
                          have hZ := hZf
                          clear hZf
                          have hBF := HBz.out.trans (hZ.mono HBz.out.size)
                          have h3F := HB3z.out.trans (hZ.mono HB3z.out.size)
                          have hmF := HM.out.below hBF
                          obtain ⟨p0, p1, p2⟩ := blk_f3T (Blk.call HBA.out h3F)
                          obtain ⟨q0, q1, q2⟩ := blk_f3T bF
                          have hsd := fun wx va vb hx hy => sameDoc_c va vb A.1 A.1 wx hx hy
                          rw [sameDoc_self] at hsd
                          have HSD := Lib.hid hsd
                          have HD1 := Lib.hid (show RDoc _ (.agg #[sv A.1.ent, .slice ao A.1.tups.length ac, .slice bo A.1.notes.length bc]) A.1 from ⟨_, _, rfl, HJ.out.1.below h3F (Nat.le_refl _), RRow.below HJ.out.2 h3F (Nat.le_refl _)⟩)
                          have HD2 := Lib.hid (show RDoc _ (.agg #[sv A.1.ent, .slice co A.1.tups.length cc, .slice eo A.1.notes.length ec]) A.1 from ⟨_, _, rfl, HKF.out.1, HKF.out.2⟩)
                          clear hsd bF hHeld
                          go_wp2_with (first | (go_at_call 9; refine (HSD.out _ _ _ HD1.out HD2.out).mono ?_; rintro e w17 ⟨rfl, hC7⟩; have hm7 := hmF.below hC7) | (go_at_call 8; refine (HAW.out _ hm7).mono ?_; rintro e w18 ⟨rfl, hC8⟩))
                          go_ret
                          exact ⟨rfl, (hBF.trans (hC7.mono hBF.size)).trans (hC8.mono (Nat.le_trans hBF.size hC7.size))⟩
                        exact AllReadyH.nil
                      exact AllReadyH.nil
                    exact AllReadyH.nil
                  exact AllReadyH.nil
                exact AllReadyH.nil
              refine AllReadyH.cons rfl (fun K hK => ?_) ?_
              ·
                obtain ⟨gN, hgN⟩ : ∃ g, g = c49.heap.size := ⟨_, rfl⟩
                obtain ⟨c68, hc68⟩ : ∃ z, z = c49.alloc (.cells #[.string ⟨#[]⟩, .slice none 0 0, .slice none 0 0] 25) := ⟨_, rfl⟩
                have hZn : Below z0.heap.size z0 c68 := by rw [hc68]; exact hZ.alloc hZ.size _
                have bgNn : Blk c68 gN 25 #[.string ⟨#[]⟩, .slice none 0 0, .slice none 0 0] := by rw [hc68, hgN]; exact Blk.new _ _ _
                have bg5n : Blk c68 g5 27 #[.int .i64 (X + 1), .string ⟨#[]⟩, .string ⟨#[]⟩, .int .i64 0, .string E, .slice tuo q.doc.tups.length tc, .slice noo q.doc.notes.length nc] := by rw [hc68]; exact Blk.alloc bg5 _
                have fN : z0.heap.size ≤ gN := by rw [hgN]; exact hZ.size
                go_simp
                refine hK.out _ _ ?_ (fun hHeld => ?_)
                focus ((try dsimp only); first | exact HS7.out _ hZn | (rw [← hc68]; exact HS7.out _ hZn))
                clear hK K
                try simp only [Act.put, List.getElem_toArray, List.getElem_cons_zero, List.getElem_cons_succ, List.setIfInBounds_toArray, List.set_cons_zero, List.set_cons_succ]
                rw [← hc68] at hHeld ⊢
                try simp only [← hgN]
                clear hZ
                have hZ := hZn
                clear hZn
                clear bg5
                have bg5 := bg5n
                clear bg5n
                have bgN := bgNn
                clear bgNn
                clear hc68 hgN
                refine wpAnyH_ready (rs := [1]) (by kernel_rfl) (by simp) ?_
                refine AllReadyH.cons rfl (fun K hK => ?_) ?_
                ·
                  obtain ⟨g1, hg1⟩ : ∃ g, g = c68.heap.size := ⟨_, rfl⟩
                  obtain ⟨c69, hc69⟩ : ∃ z, z = c68.alloc (.cells #[] 27) := ⟨_, rfl⟩
                  have hZn : Below z0.heap.size z0 c69 := by rw [hc69]; exact hZ.alloc hZ.size _
                  have bg5n : Blk c69 g5 27 #[.int .i64 (X + 1), .string ⟨#[]⟩, .string ⟨#[]⟩, .int .i64 0, .string E, .slice tuo q.doc.tups.length tc, .slice noo q.doc.notes.length nc] := by rw [hc69]; exact Blk.alloc bg5 _
                  have bgNn : Blk c69 gN 25 #[.string ⟨#[]⟩, .slice none 0 0, .slice none 0 0] := by rw [hc69]; exact Blk.alloc bgN _
                  have hRn : c69.ownsRow z0.heap.size 27 7 (.slice (some ⟨g1, 0, none⟩) 0 0) 0 [] := by rw [hc69, hg1]; exact World.ownsRow_lit (base := z0.heap.size) (e := 27) (size := 7) c68 #[] 0 hZ.size (by decide) rfl
                  have eg5 : some g5 ≠ (Value.ownBlock (.slice (some ⟨g1, 0, none⟩) 0 0)) := fun e => by have := Blk.lt bg5; have e2 : g5 = g1 := Option.some.inj e; omega
                  have egN : some gN ≠ (Value.ownBlock (.slice (some ⟨g1, 0, none⟩) 0 0)) := fun e => by have := Blk.lt bgN; have e2 : gN = g1 := Option.some.inj e; omega
                  go_simp
                  refine hK.out _ _ ?_ (fun hHeld => ?_)
                  focus ((try dsimp only); first | exact HS7.out _ hZn | (rw [← hc69]; exact HS7.out _ hZn))
                  clear hK K
                  try simp only [Act.put, List.getElem_toArray, List.getElem_cons_zero, List.getElem_cons_succ, List.setIfInBounds_toArray, List.set_cons_zero, List.set_cons_succ]
                  rw [← hc69] at hHeld ⊢
                  try simp only [← hg1]
                  clear hZ
                  have hZ := hZn
                  clear hZn
                  skip
                  have hR := hRn
                  clear hRn
                  clear bg5
                  have bg5 := bg5n
                  clear bg5n
                  clear bgN
                  have bgN := bgNn
                  clear bgNn
                  clear hc69 hg1
                  refine wpAnyH_ready (rs := [3]) (by kernel_rfl) (by simp) ?_
                  refine AllReadyH.cons rfl (fun K hK => ?_) ?_
                  ·
                    refine op_appG (base := z0.heap.size) (v := (.slice (some ⟨g1, 0, none⟩) 0 0)) (n := 0) (xs := []) (news := xs) (ad := ⟨b, off, none⟩) (m := L.length) (c := pc) rfl Tryd.underlying31 infoPub rfl (by decide) rfl rfl hR (by omega) HXL.out (HXC.out _ (HBz.out.trans (hZ.mono HBz.out.size))) HX1.out (by decide) (by omega) hZ.size (fun v3 c70 h2 h3 h4 => ?_)
                    have hZn := hZ.grown h3 hZ.size (fun k hk => (World.ownsRow.lt hR k hk).1)
                    have hRn : c70.ownsRow z0.heap.size 27 7 v3 L.length xs := by simpa using h2
                    have bg5n := blk_grownO bg5 h3 eg5
                    have eg5n : some g5 ≠ Value.ownBlock v3 := fun e => by
                      rcases h4 with h4 | h4
                      · exact eg5 (e.trans h4)
                      · rw [h4] at e; injection e with e; have := Blk.lt bg5; omega
                    have bgNn := blk_grownO bgN h3 egN
                    have egNn : some gN ≠ Value.ownBlock v3 := fun e => by
                      rcases h4 with h4 | h4
                      · exact egN (e.trans h4)
                      · rw [h4] at e; injection e with e; have := Blk.lt bgN; omega
                    clear hZ hR h2
                    have hZ := hZn
                    have hR := hRn
                    clear hZn hRn h3 h4
                    clear bg5 eg5
                    have bg5 := bg5n
                    have eg5 := eg5n
                    clear bg5n eg5n
                    clear bgN egN
                    have bgN := bgNn
                    have egN := egNn
                    clear bgNn egNn
                    refine hK.out _ _ ?_ (fun hHeld => ?_)
                    focus ((try dsimp only); exact HS7.out _ hZ)
                    clear hK K
                    try simp only [Act.put, List.getElem_toArray, List.getElem_cons_zero, List.getElem_cons_succ, List.setIfInBounds_toArray, List.set_cons_zero, List.set_cons_succ]
                    refine wpAnyH_ready (rs := [6]) (by kernel_rfl) (by simp) ?_
                    refine AllReadyH.cons rfl (fun K hK => ?_) ?_
                    ·
                      refine op_appG (base := z0.heap.size) (v := v3) (n := L.length) (xs := xs) (news := (#[.int .i64 (X + 1), .string ⟨#[]⟩, .string ⟨#[]⟩, .int .i64 0, .string E, .slice tuo q.doc.tups.length tc, .slice noo q.doc.notes.length nc] : Array Value).toList) (ad := ⟨g5, 0, none⟩) (m := 1) (c := 1) rfl Tryd.underlying31 infoPub rfl (by decide) rfl rfl hR (by decide) rfl (fun j u hj => by rw [add_cell]; have := boxedCell bg5 (0 + j); rw [this]; simpa using hj) (by intro u hu; simp at hu; rcases hu with rfl | rfl | rfl | rfl | rfl | rfl | rfl <;> rfl) (by decide) (by omega) hZ.size (fun v6 c71 h2 h3 h4 => ?_)
                      have hZn := hZ.grown h3 hZ.size (fun k hk => (World.ownsRow.lt hR k hk).1)
                      have hRn := h2
                      have bg5n := blk_grownO bg5 h3 eg5
                      have eg5n : some g5 ≠ Value.ownBlock v6 := fun e => by
                        rcases h4 with h4 | h4
                        · exact eg5 (e.trans h4)
                        · rw [h4] at e; injection e with e; have := Blk.lt bg5; omega
                      have bgNn := blk_grownO bgN h3 egN
                      have egNn : some gN ≠ Value.ownBlock v6 := fun e => by
                        rcases h4 with h4 | h4
                        · exact egN (e.trans h4)
                        · rw [h4] at e; injection e with e; have := Blk.lt bgN; omega
                      clear hZ hR h2
                      have hZ := hZn
                      have hR := hRn
                      clear hZn hRn h3 h4
                      clear bg5 eg5
                      have bg5 := bg5n
                      have eg5 := eg5n
                      clear bg5n eg5n
                      clear bgN egN
                      have bgN := bgNn
                      have egN := egNn
                      clear bgNn egNn
                      refine hK.out _ _ ?_ (fun hHeld => ?_)
                      focus ((try dsimp only); exact HS7.out _ hZ)
                      clear hK K
                      try simp only [Act.put, List.getElem_toArray, List.getElem_cons_zero, List.getElem_cons_succ, List.setIfInBounds_toArray, List.set_cons_zero, List.set_cons_succ]
                      refine wpAnyH_ready (rs := [7]) (by kernel_rfl) (by simp) ?_
                      refine AllReadyH.cons rfl (fun K hK => ?_) ?_
                      ·
                        have hpubs : RPubs c71 v6 (L ++ [⟨X + 1, q.doc⟩]) := RPubs.of_rows (xs := xs ++ (#[.int .i64 (X + 1), .string ⟨#[]⟩, .string ⟨#[]⟩, .int .i64 0, .string E, .slice tuo q.doc.tups.length tc, .slice noo q.doc.notes.length nc] : Array Value).toList) (by rw [List.length_append]; exact RRow.of_own hR) (PubRows.snoc (HXP.out.below (HBz.out.trans (hZ.mono HBz.out.size)) (Nat.le_refl _)) ⟨⟨#[]⟩, ⟨#[]⟩, 0, _, _, by rw [HSE.out], HKT.out.1.below (HBz.out.trans (hZ.mono HBz.out.size)) (Nat.le_refl _), RRow.below HKT.out.2 (HBz.out.trans (hZ.mono HBz.out.size)) (Nat.le_refl _)⟩)
                        go_simp
                        go_at_call 7
                        refine (HC3.out _ (HM.out.below (HBz.out.trans (hZ.mono HBz.out.size))) _ hpubs).mono ?_
                        rintro e c72 ⟨u1, u2, rfl, k1, k2, fr1, fr2, hC⟩
                        have HK2 := Lib.hid (And.intro k1 k2)
                        obtain ⟨co, cc, rfl, hcc⟩ := k1.cap
                        obtain ⟨eo, ec, rfl, hec⟩ := k2.cap
                        have hZn := hZ.trans (hC.mono hZ.size)
                        have bgNn := Blk.call bgN hC
                        have hOf : Offs gN (.slice co A.1.tups.length cc) A.1.tups ∧ Offs gN (.slice eo A.1.notes.length ec) A.1.notes := ⟨Offs.fresh fr1 (Blk.lt bgN), Offs.fresh fr2 (Blk.lt bgN)⟩
                        clear bgN egN
                        have bgN := bgNn
                        clear bgNn
                        clear hZ hR bg5 eg5 k1 k2 fr1 fr2 hC hpubs
                        have hZ := hZn
                        clear hZn
                        (try dsimp only)
                        refine hK.out _ _ ?_ (fun hHeld => ?_)
                        focus ((try dsimp only); exact HS7.out _ hZ)
                        clear hK K
                        try simp only [Act.put, List.getElem_toArray, List.getElem_cons_zero, List.getElem_cons_succ, List.setIfInBounds_toArray, List.set_cons_zero, List.set_cons_succ]
                        refine wpAnyH_take (i := 8) (v := ?_) rfl (by kernel_rfl) (by kernel_rfl) (by kernel_rfl) (fun _ _ _ h => h) (Or.inl ⟨by rfl, ?_⟩) (by assumption) ?_
                        rotate_left
                        focus (intro _ hSw; (try dsimp only at hSw); go_simp; try (with_reducible rfl))
                        try simp only [Act.put, List.getElem_toArray, List.getElem_cons_zero, List.getElem_cons_succ, List.setIfInBounds_toArray, List.set_cons_zero, List.set_cons_succ]
                        refine wpAnyH_take (i := 9) (v := ?_) rfl (by kernel_rfl) (by kernel_rfl) (by kernel_rfl) (fun _ _ _ h => h) (Or.inl ⟨by rfl, ?_⟩) (by assumption) ?_
                        rotate_left
                        focus (intro _ hSw; (try dsimp only at hSw); go_simp; try (with_reducible rfl))
                        try simp only [Act.put, List.getElem_toArray, List.getElem_cons_zero, List.getElem_cons_succ, List.setIfInBounds_toArray, List.set_cons_zero, List.set_cons_succ]
                        refine wpAnyH_take (i := 10) (v := ?_) rfl (by kernel_rfl) (by kernel_rfl) (by kernel_rfl) (fun _ _ _ h => h) (Or.inl ⟨by rfl, ?_⟩) (by assumption) ?_
                        rotate_left
                        focus (intro _ hSw; (try dsimp only at hSw); go_simp; try (with_reducible rfl))
                        try simp only [Act.put, List.getElem_toArray, List.getElem_cons_zero, List.getElem_cons_succ, List.setIfInBounds_toArray, List.set_cons_zero, List.set_cons_succ]
                        refine wpAnyH_ready (rs := [12]) (by kernel_rfl) (by simp) ?_
                        refine AllReadyH.cons rfl (fun K hK => ?_) ?_
                        ·
                          rw [if_pos (by rfl)]
                          refine wp_store_row _ _ _ rfl _ #[sv A.1.ent, .slice co A.1.tups.length cc, .slice eo A.1.notes.length ec] rfl rfl _ _ bgN (by kernel_rfl) (by rfl) (by kernel_rfl) ?_
                          try go_simp
                          refine hK.out _ _ ?_ (fun hHeld => ?_)
                          focus ((try dsimp only); exact HS7.out _ (Below.setRow hZ fN _))
                          clear hK K
                          try simp only [Act.put, List.getElem_toArray, List.getElem_cons_zero, List.getElem_cons_succ, List.setIfInBounds_toArray, List.set_cons_zero, List.set_cons_succ]
                          obtain ⟨c73, hc73⟩ : ∃ z, z = World.setRow c72 gN #[sv A.1.ent, .slice co A.1.tups.length cc, .slice eo A.1.notes.length ec] := ⟨_, rfl⟩
                          have hZf : Below z0.heap.size z0 c73 := by rw [hc73]; exact Below.setRow hZ fN _
                          have bF : Blk c73 gN 25 #[sv A.1.ent, .slice co A.1.tups.length cc, .slice eo A.1.notes.length ec] := by rw [hc73]; exact Blk.row bgN _
                          have HKF := Lib.hid (show RTups c73 (.slice co A.1.tups.length cc) A.1.tups ∧ RStrs c73 (.slice eo A.1.notes.length ec) A.1.notes from by rw [hc73]; exact ⟨RRow.rowT HK2.out.1 hOf.1, RRow.rowS HK2.out.2 hOf.2⟩)
                          rw [← hc73] at hHeld ⊢
                          clear hc73 hZ bgN HK2 hOf fN
                          obtain ⟨wf, hwf⟩ : ∃ z, z = c73 := ⟨_, rfl⟩
                          subst hwf
                          refine wpAnyH_take (i := 13) (v := ?_) rfl (by kernel_rfl) (by kernel_rfl) (by kernel_rfl) (fun _ _ _ h => h) (Or.inl ⟨by rfl, ?_⟩) (by assumption) ?_
                          rotate_left
                          focus (intro _ hSw; (try dsimp only at hSw); go_simp; try (with_reducible rfl))
                          try simp only [Act.put, List.getElem_toArray, List.getElem_cons_zero, List.getElem_cons_succ, List.setIfInBounds_toArray, List.set_cons_zero, List.set_cons_succ]
                          refine wpAnyH_done (by kernel_rfl) ?_ _
                          have hZ := hZf
                          clear hZf
                          have hBF := HBz.out.trans (hZ.mono HBz.out.size)
                          have h3F := HB3z.out.trans (hZ.mono HB3z.out.size)
                          have hmF := HM.out.below hBF
                          obtain ⟨p0, p1, p2⟩ := blk_f3T (Blk.call HBA.out h3F)
                          obtain ⟨q0, q1, q2⟩ := blk_f3T bF
                          have hsd := fun wx va vb hx hy => sameDoc_c va vb A.1 A.1 wx hx hy
                          rw [sameDoc_self] at hsd
                          have HSD := Lib.hid hsd
                          have HD1 := Lib.hid (show RDoc _ (.agg #[sv A.1.ent, .slice ao A.1.tups.length ac, .slice bo A.1.notes.length bc]) A.1 from ⟨_, _, rfl, HJ.out.1.below h3F (Nat.le_refl _), RRow.below HJ.out.2 h3F (Nat.le_refl _)⟩)
                          have HD2 := Lib.hid (show RDoc _ (.agg #[sv A.1.ent, .slice co A.1.tups.length cc, .slice eo A.1.notes.length ec]) A.1 from ⟨_, _, rfl, HKF.out.1, HKF.out.2⟩)
                          clear hsd bF hHeld
                          go_wp2_with (first | (go_at_call 9; refine (HSD.out _ _ _ HD1.out HD2.out).mono ?_; rintro e w17 ⟨rfl, hC7⟩; have hm7 := hmF.below hC7) | (go_at_call 8; refine (HAW.out _ hm7).mono ?_; rintro e w18 ⟨rfl, hC8⟩))
                          go_ret
                          exact ⟨rfl, (hBF.trans (hC7.mono hBF.size)).trans (hC8.mono (Nat.le_trans hBF.size hC7.size))⟩
                        exact AllReadyH.nil
                      exact AllReadyH.nil
                    exact AllReadyH.nil
                  exact AllReadyH.nil
                exact AllReadyH.nil
              exact AllReadyH.nil
            refine AllReadyH.cons rfl (fun K hK => ?_) ?_
            ·
              obtain ⟨gN, hgN⟩ : ∃ g, g = z0.heap.size := ⟨_, rfl⟩
              obtain ⟨c74, hc74⟩ : ∃ z, z = z0.alloc (.cells #[.string ⟨#[]⟩, .slice none 0 0, .slice none 0 0] 25) := ⟨_, rfl⟩
              have hZn : Below z0.heap.size z0 c74 := by rw [hc74]; exact hZ.alloc hZ.size _
              have bgNn : Blk c74 gN 25 #[.string ⟨#[]⟩, .slice none 0 0, .slice none 0 0] := by rw [hc74, hgN]; exact Blk.new _ _ _
              have fN : z0.heap.size ≤ gN := by rw [hgN]; exact hZ.size
              go_simp
              refine hK.out _ _ ?_ (fun hHeld => ?_)
              focus ((try dsimp only); first | exact HS7.out _ hZn | (rw [← hc74]; exact HS7.out _ hZn))
              clear hK K
              try simp only [Act.put, List.getElem_toArray, List.getElem_cons_zero, List.getElem_cons_succ, List.setIfInBounds_toArray, List.set_cons_zero, List.set_cons_succ]
              rw [← hc74] at hHeld ⊢
              try simp only [← hgN]
              clear hZ
              have hZ := hZn
              clear hZn
              have bgN := bgNn
              clear bgNn
              clear hc74 hgN
              refine wpAnyH_ready (rs := [1, 5]) (by kernel_rfl) (by simp) ?_
              refine AllReadyH.cons rfl (fun K hK => ?_) ?_
              ·
                obtain ⟨g1, hg1⟩ : ∃ g, g = c74.heap.size := ⟨_, rfl⟩
                obtain ⟨c75, hc75⟩ : ∃ z, z = c74.alloc (.cells #[] 27) := ⟨_, rfl⟩
                have hZn : Below z0.heap.size z0 c75 := by rw [hc75]; exact hZ.alloc hZ.size _
                have bgNn : Blk c75 gN 25 #[.string ⟨#[]⟩, .slice none 0 0, .slice none 0 0] := by rw [hc75]; exact Blk.alloc bgN _
                have hRn : c75.ownsRow z0.heap.size 27 7 (.slice (some ⟨g1, 0, none⟩) 0 0) 0 [] := by rw [hc75, hg1]; exact World.ownsRow_lit (base := z0.heap.size) (e := 27) (size := 7) c74 #[] 0 hZ.size (by decide) rfl
                have egN : some gN ≠ (Value.ownBlock (.slice (some ⟨g1, 0, none⟩) 0 0)) := fun e => by have := Blk.lt bgN; have e2 : gN = g1 := Option.some.inj e; omega
                go_simp
                refine hK.out _ _ ?_ (fun hHeld => ?_)
                focus ((try dsimp only); first | exact HS7.out _ hZn | (rw [← hc75]; exact HS7.out _ hZn))
                clear hK K
                try simp only [Act.put, List.getElem_toArray, List.getElem_cons_zero, List.getElem_cons_succ, List.setIfInBounds_toArray, List.set_cons_zero, List.set_cons_succ]
                rw [← hc75] at hHeld ⊢
                try simp only [← hg1]
                clear hZ
                have hZ := hZn
                clear hZn
                skip
                have hR := hRn
                clear hRn
                clear bgN
                have bgN := bgNn
                clear bgNn
                clear hc75 hg1
                refine wpAnyH_ready (rs := [3, 5]) (by kernel_rfl) (by simp) ?_
                refine AllReadyH.cons rfl (fun K hK => ?_) ?_
                ·
                  refine op_appG (base := z0.heap.size) (v := (.slice (some ⟨g1, 0, none⟩) 0 0)) (n := 0) (xs := []) (news := xs) (ad := ⟨b, off, none⟩) (m := L.length) (c := pc) rfl Tryd.underlying31 infoPub rfl (by decide) rfl rfl hR (by omega) HXL.out (HXC.out _ (HBz.out.trans (hZ.mono HBz.out.size))) HX1.out (by decide) (by omega) hZ.size (fun v3 c76 h2 h3 h4 => ?_)
                  have hZn := hZ.grown h3 hZ.size (fun k hk => (World.ownsRow.lt hR k hk).1)
                  have hRn : c76.ownsRow z0.heap.size 27 7 v3 L.length xs := by simpa using h2
                  have bgNn := blk_grownO bgN h3 egN
                  have egNn : some gN ≠ Value.ownBlock v3 := fun e => by
                    rcases h4 with h4 | h4
                    · exact egN (e.trans h4)
                    · rw [h4] at e; injection e with e; have := Blk.lt bgN; omega
                  clear hZ hR h2
                  have hZ := hZn
                  have hR := hRn
                  clear hZn hRn h3 h4
                  clear bgN egN
                  have bgN := bgNn
                  have egN := egNn
                  clear bgNn egNn
                  refine hK.out _ _ ?_ (fun hHeld => ?_)
                  focus ((try dsimp only); exact HS7.out _ hZ)
                  clear hK K
                  try simp only [Act.put, List.getElem_toArray, List.getElem_cons_zero, List.getElem_cons_succ, List.setIfInBounds_toArray, List.set_cons_zero, List.set_cons_succ]
                  refine wpAnyH_ready (rs := [5]) (by kernel_rfl) (by simp) ?_
                  refine AllReadyH.cons rfl (fun K hK => ?_) ?_
                  ·
                    obtain ⟨g5, hg5⟩ : ∃ g, g = c76.heap.size := ⟨_, rfl⟩
                    obtain ⟨c77, hc77⟩ : ∃ z, z = c76.alloc (.cells #[.int .i64 (X + 1), .string ⟨#[]⟩, .string ⟨#[]⟩, .int .i64 0, .string E, .slice tuo q.doc.tups.length tc, .slice noo q.doc.notes.length nc] 27) := ⟨_, rfl⟩
                    have hZn : Below z0.heap.size z0 c77 := by rw [hc77]; exact hZ.alloc hZ.size _
                    have bg5n : Blk c77 g5 27 #[.int .i64 (X + 1), .string ⟨#[]⟩, .string ⟨#[]⟩, .int .i64 0, .string E, .slice tuo q.doc.tups.length tc, .slice noo q.doc.notes.length nc] := by rw [hc77, hg5]; exact Blk.new _ _ _
                    have bgNn : Blk c77 gN 25 #[.string ⟨#[]⟩, .slice none 0 0, .slice none 0 0] := by rw [hc77]; exact Blk.alloc bgN _
                    have hRn : c77.ownsRow z0.heap.size 27 7 v3 L.length xs := by rw [hc77]; exact World.ownsRow.alloc hR _
                    have eg5 : some g5 ≠ (Value.ownBlock v3) := fun e => by have := (World.ownsRow.lt hR _ e.symm).2; omega
                    go_simp
                    refine hK.out _ _ ?_ (fun hHeld => ?_)
                    focus ((try dsimp only); first | exact HS7.out _ hZn | (rw [← hc77]; exact HS7.out _ hZn))
                    clear hK K
                    try simp only [Act.put, List.getElem_toArray, List.getElem_cons_zero, List.getElem_cons_succ, List.setIfInBounds_toArray, List.set_cons_zero, List.set_cons_succ]
                    rw [← hc77] at hHeld ⊢
                    try simp only [← hg5]
                    clear hZ
                    have hZ := hZn
                    clear hZn
                    clear hR
                    have hR := hRn
                    clear hRn
                    have bg5 := bg5n
                    clear bg5n
                    clear bgN
                    have bgN := bgNn
                    clear bgNn
                    clear hc77 hg5
                    refine wpAnyH_ready (rs := [6]) (by kernel_rfl) (by simp) ?_
                    refine AllReadyH.cons rfl (fun K hK => ?_) ?_
                    ·
                      refine op_appG (base := z0.heap.size) (v := v3) (n := L.length) (xs := xs) (news := (#[.int .i64 (X + 1), .string ⟨#[]⟩, .string ⟨#[]⟩, .int .i64 0, .string E, .slice tuo q.doc.tups.length tc, .slice noo q.doc.notes.length nc] : Array Value).toList) (ad := ⟨g5, 0, none⟩) (m := 1) (c := 1) rfl Tryd.underlying31 infoPub rfl (by decide) rfl rfl hR (by decide) rfl (fun j u hj => by rw [add_cell]; have := boxedCell bg5 (0 + j); rw [this]; simpa using hj) (by intro u hu; simp at hu; rcases hu with rfl | rfl | rfl | rfl | rfl | rfl | rfl <;> rfl) (by decide) (by omega) hZ.size (fun v6 c78 h2 h3 h4 => ?_)
                      have hZn := hZ.grown h3 hZ.size (fun k hk => (World.ownsRow.lt hR k hk).1)
                      have hRn := h2
                      have bg5n := blk_grownO bg5 h3 eg5
                      have eg5n : some g5 ≠ Value.ownBlock v6 := fun e => by
                        rcases h4 with h4 | h4
                        · exact eg5 (e.trans h4)
                        · rw [h4] at e; injection e with e; have := Blk.lt bg5; omega
                      have bgNn := blk_grownO bgN h3 egN
                      have egNn : some gN ≠ Value.ownBlock v6 := fun e => by
                        rcases h4 with h4 | h4
                        · exact egN (e.trans h4)
                        · rw [h4] at e; injection e with e; have := Blk.lt bgN; omega
                      clear hZ hR h2
                      have hZ := hZn
                      have hR := hRn
                      clear hZn hRn h3 h4
                      clear bg5 eg5
                      have bg5 := bg5n
                      have eg5 := eg5n
                      clear bg5n eg5n
                      clear bgN egN
                      have bgN := bgNn
                      have egN := egNn
                      clear bgNn egNn
                      refine hK.out _ _ ?_ (fun hHeld => ?_)
                      focus ((try dsimp only); exact HS7.out _ hZ)
                      clear hK K
                      try simp only [Act.put, List.getElem_toArray, List.getElem_cons_zero, List.getElem_cons_succ, List.setIfInBounds_toArray, List.set_cons_zero, List.set_cons_succ]
                      refine wpAnyH_ready (rs := [7]) (by kernel_rfl) (by simp) ?_
                      refine AllReadyH.cons rfl (fun K hK => ?_) ?_
                      ·
                        have hpubs : RPubs c78 v6 (L ++ [⟨X + 1, q.doc⟩]) := RPubs.of_rows (xs := xs ++ (#[.int .i64 (X + 1), .string ⟨#[]⟩, .string ⟨#[]⟩, .int .i64 0, .string E, .slice tuo q.doc.tups.length tc, .slice noo q.doc.notes.length nc] : Array Value).toList) (by rw [List.length_append]; exact RRow.of_own hR) (PubRows.snoc (HXP.out.below (HBz.out.trans (hZ.mono HBz.out.size)) (Nat.le_refl _)) ⟨⟨#[]⟩, ⟨#[]⟩, 0, _, _, by rw [HSE.out], HKT.out.1.below (HBz.out.trans (hZ.mono HBz.out.size)) (Nat.le_refl _), RRow.below HKT.out.2 (HBz.out.trans (hZ.mono HBz.out.size)) (Nat.le_refl _)⟩)
                        go_simp
                        go_at_call 7
                        refine (HC3.out _ (HM.out.below (HBz.out.trans (hZ.mono HBz.out.size))) _ hpubs).mono ?_
                        rintro e c79 ⟨u1, u2, rfl, k1, k2, fr1, fr2, hC⟩
                        have HK2 := Lib.hid (And.intro k1 k2)
                        obtain ⟨co, cc, rfl, hcc⟩ := k1.cap
                        obtain ⟨eo, ec, rfl, hec⟩ := k2.cap
                        have hZn := hZ.trans (hC.mono hZ.size)
                        have bgNn := Blk.call bgN hC
                        have hOf : Offs gN (.slice co A.1.tups.length cc) A.1.tups ∧ Offs gN (.slice eo A.1.notes.length ec) A.1.notes := ⟨Offs.fresh fr1 (Blk.lt bgN), Offs.fresh fr2 (Blk.lt bgN)⟩
                        clear bgN egN
                        have bgN := bgNn
                        clear bgNn
                        clear hZ hR bg5 eg5 k1 k2 fr1 fr2 hC hpubs
                        have hZ := hZn
                        clear hZn
                        (try dsimp only)
                        refine hK.out _ _ ?_ (fun hHeld => ?_)
                        focus ((try dsimp only); exact HS7.out _ hZ)
                        clear hK K
                        try simp only [Act.put, List.getElem_toArray, List.getElem_cons_zero, List.getElem_cons_succ, List.setIfInBounds_toArray, List.set_cons_zero, List.set_cons_succ]
                        refine wpAnyH_take (i := 8) (v := ?_) rfl (by kernel_rfl) (by kernel_rfl) (by kernel_rfl) (fun _ _ _ h => h) (Or.inl ⟨by rfl, ?_⟩) (by assumption) ?_
                        rotate_left
                        focus (intro _ hSw; (try dsimp only at hSw); go_simp; try (with_reducible rfl))
                        try simp only [Act.put, List.getElem_toArray, List.getElem_cons_zero, List.getElem_cons_succ, List.setIfInBounds_toArray, List.set_cons_zero, List.set_cons_succ]
                        refine wpAnyH_take (i := 9) (v := ?_) rfl (by kernel_rfl) (by kernel_rfl) (by kernel_rfl) (fun _ _ _ h => h) (Or.inl ⟨by rfl, ?_⟩) (by assumption) ?_
                        rotate_left
                        focus (intro _ hSw; (try dsimp only at hSw); go_simp; try (with_reducible rfl))
                        try simp only [Act.put, List.getElem_toArray, List.getElem_cons_zero, List.getElem_cons_succ, List.setIfInBounds_toArray, List.set_cons_zero, List.set_cons_succ]
                        refine wpAnyH_take (i := 10) (v := ?_) rfl (by kernel_rfl) (by kernel_rfl) (by kernel_rfl) (fun _ _ _ h => h) (Or.inl ⟨by rfl, ?_⟩) (by assumption) ?_
                        rotate_left
                        focus (intro _ hSw; (try dsimp only at hSw); go_simp; try (with_reducible rfl))
                        try simp only [Act.put, List.getElem_toArray, List.getElem_cons_zero, List.getElem_cons_succ, List.setIfInBounds_toArray, List.set_cons_zero, List.set_cons_succ]
                        refine wpAnyH_ready (rs := [12]) (by kernel_rfl) (by simp) ?_
                        refine AllReadyH.cons rfl (fun K hK => ?_) ?_
                        ·
                          rw [if_pos (by rfl)]
                          refine wp_store_row _ _ _ rfl _ #[sv A.1.ent, .slice co A.1.tups.length cc, .slice eo A.1.notes.length ec] rfl rfl _ _ bgN (by kernel_rfl) (by rfl) (by kernel_rfl) ?_
                          try go_simp
                          refine hK.out _ _ ?_ (fun hHeld => ?_)
                          focus ((try dsimp only); exact HS7.out _ (Below.setRow hZ fN _))
                          clear hK K
                          try simp only [Act.put, List.getElem_toArray, List.getElem_cons_zero, List.getElem_cons_succ, List.setIfInBounds_toArray, List.set_cons_zero, List.set_cons_succ]
                          obtain ⟨c80, hc80⟩ : ∃ z, z = World.setRow c79 gN #[sv A.1.ent, .slice co A.1.tups.length cc, .slice eo A.1.notes.length ec] := ⟨_, rfl⟩
                          have hZf : Below z0.heap.size z0 c80 := by rw [hc80]; exact Below.setRow hZ fN _
                          have bF : Blk c80 gN 25 #[sv A.1.ent, .slice co A.1.tups.length cc, .slice eo A.1.notes.length ec] := by rw [hc80]; exact Blk.row bgN _
                          have HKF := Lib.hid (show RTups c80 (.slice co A.1.tups.length cc) A.1.tups ∧ RStrs c80 (.slice eo A.1.notes.length ec) A.1.notes from by rw [hc80]; exact ⟨RRow.rowT HK2.out.1 hOf.1, RRow.rowS HK2.out.2 hOf.2⟩)
                          rw [← hc80] at hHeld ⊢
                          clear hc80 hZ bgN HK2 hOf fN
                          obtain ⟨wf, hwf⟩ : ∃ z, z = c80 := ⟨_, rfl⟩
                          subst hwf
                          refine wpAnyH_take (i := 13) (v := ?_) rfl (by kernel_rfl) (by kernel_rfl) (by kernel_rfl) (fun _ _ _ h => h) (Or.inl ⟨by rfl, ?_⟩) (by assumption) ?_
                          rotate_left
                          focus (intro _ hSw; (try dsimp only at hSw); go_simp; try (with_reducible rfl))
                          try simp only [Act.put, List.getElem_toArray, List.getElem_cons_zero, List.getElem_cons_succ, List.setIfInBounds_toArray, List.set_cons_zero, List.set_cons_succ]
                          refine wpAnyH_done (by kernel_rfl) ?_ _
                          have hZ := hZf
                          clear hZf
                          have hBF := HBz.out.trans (hZ.mono HBz.out.size)
                          have h3F := HB3z.out.trans (hZ.mono HB3z.out.size)
                          have hmF := HM.out.below hBF
                          obtain ⟨p0, p1, p2⟩ := blk_f3T (Blk.call HBA.out h3F)
                          obtain ⟨q0, q1, q2⟩ := blk_f3T bF
                          have hsd := fun wx va vb hx hy => sameDoc_c va vb A.1 A.1 wx hx hy
                          rw [sameDoc_self] at hsd
                          have HSD := Lib.hid hsd
                          have HD1 := Lib.hid (show RDoc _ (.agg #[sv A.1.ent, .slice ao A.1.tups.length ac, .slice bo A.1.notes.length bc]) A.1 from ⟨_, _, rfl, HJ.out.1.below h3F (Nat.le_refl _), RRow.below HJ.out.2 h3F (Nat.le_refl _)⟩)
                          have HD2 := Lib.hid (show RDoc _ (.agg #[sv A.1.ent, .slice co A.1.tups.length cc, .slice eo A.1.notes.length ec]) A.1 from ⟨_, _, rfl, HKF.out.1, HKF.out.2⟩)
                          clear hsd bF hHeld
                          go_wp2_with (first | (go_at_call 9; refine (HSD.out _ _ _ HD1.out HD2.out).mono ?_; rintro e w17 ⟨rfl, hC7⟩; have hm7 := hmF.below hC7) | (go_at_call 8; refine (HAW.out _ hm7).mono ?_; rintro e w18 ⟨rfl, hC8⟩))
                          go_ret
                          exact ⟨rfl, (hBF.trans (hC7.mono hBF.size)).trans (hC8.mono (Nat.le_trans hBF.size hC7.size))⟩
                        exact AllReadyH.nil
                      exact AllReadyH.nil
                    exact AllReadyH.nil
                  exact AllReadyH.nil
                refine AllReadyH.cons rfl (fun K hK => ?_) ?_
                ·
                  obtain ⟨g5, hg5⟩ : ∃ g, g = c75.heap.size := ⟨_, rfl⟩
                  obtain ⟨c81, hc81⟩ : ∃ z, z = c75.alloc (.cells #[.int .i64 (X + 1), .string ⟨#[]⟩, .string ⟨#[]⟩, .int .i64 0, .string E, .slice tuo q.doc.tups.length tc, .slice noo q.doc.notes.length nc] 27) := ⟨_, rfl⟩
                  have hZn : Below z0.heap.size z0 c81 := by rw [hc81]; exact hZ.alloc hZ.size _
                  have bg5n : Blk c81 g5 27 #[.int .i64 (X + 1), .string ⟨#[]⟩, .string ⟨#[]⟩, .int .i64 0, .string E, .slice tuo q.doc.tups.length tc, .slice noo q.doc.notes.length nc] := by rw [hc81, hg5]; exact Blk.new _ _ _
                  have bgNn : Blk c81 gN 25 #[.string ⟨#[]⟩, .slice none 0 0, .slice none 0 0] := by rw [hc81]; exact Blk.alloc bgN _
                  have hRn : c81.ownsRow z0.heap.size 27 7 (.slice (some ⟨g1, 0, none⟩) 0 0) 0 [] := by rw [hc81]; exact World.ownsRow.alloc hR _
                  have eg5 : some g5 ≠ (Value.ownBlock (.slice (some ⟨g1, 0, none⟩) 0 0)) := fun e => by have := (World.ownsRow.lt hR _ e.symm).2; omega
                  go_simp
                  refine hK.out _ _ ?_ (fun hHeld => ?_)
                  focus ((try dsimp only); first | exact HS7.out _ hZn | (rw [← hc81]; exact HS7.out _ hZn))
                  clear hK K
                  try simp only [Act.put, List.getElem_toArray, List.getElem_cons_zero, List.getElem_cons_succ, List.setIfInBounds_toArray, List.set_cons_zero, List.set_cons_succ]
                  rw [← hc81] at hHeld ⊢
                  try simp only [← hg5]
                  clear hZ
                  have hZ := hZn
                  clear hZn
                  clear hR
                  have hR := hRn
                  clear hRn
                  have bg5 := bg5n
                  clear bg5n
                  clear bgN
                  have bgN := bgNn
                  clear bgNn
                  clear hc81 hg5
                  refine wpAnyH_ready (rs := [3]) (by kernel_rfl) (by simp) ?_
                  refine AllReadyH.cons rfl (fun K hK => ?_) ?_
                  ·
                    refine op_appG (base := z0.heap.size) (v := (.slice (some ⟨g1, 0, none⟩) 0 0)) (n := 0) (xs := []) (news := xs) (ad := ⟨b, off, none⟩) (m := L.length) (c := pc) rfl Tryd.underlying31 infoPub rfl (by decide) rfl rfl hR (by omega) HXL.out (HXC.out _ (HBz.out.trans (hZ.mono HBz.out.size))) HX1.out (by decide) (by omega) hZ.size (fun v3 c82 h2 h3 h4 => ?_)
                    have hZn := hZ.grown h3 hZ.size (fun k hk => (World.ownsRow.lt hR k hk).1)
                    have hRn : c82.ownsRow z0.heap.size 27 7 v3 L.length xs := by simpa using h2
                    have bg5n := blk_grownO bg5 h3 eg5
                    have eg5n : some g5 ≠ Value.ownBlock v3 := fun e => by
                      rcases h4 with h4 | h4
                      · exact eg5 (e.trans h4)
                      · rw [h4] at e; injection e with e; have := Blk.lt bg5; omega
                    have bgNn := blk_grownO bgN h3 egN
                    have egNn : some gN ≠ Value.ownBlock v3 := fun e => by
                      rcases h4 with h4 | h4
                      · exact egN (e.trans h4)
                      · rw [h4] at e; injection e with e; have := Blk.lt bgN; omega
                    clear hZ hR h2
                    have hZ := hZn
                    have hR := hRn
                    clear hZn hRn h3 h4
                    clear bg5 eg5
                    have bg5 := bg5n
                    have eg5 := eg5n
                    clear bg5n eg5n
                    clear bgN egN
                    have bgN := bgNn
                    have egN := egNn
                    clear bgNn egNn
                    refine hK.out _ _ ?_ (fun hHeld => ?_)
                    focus ((try dsimp only); exact HS7.out _ hZ)
                    clear hK K
                    try simp only [Act.put, List.getElem_toArray, List.getElem_cons_zero, List.getElem_cons_succ, List.setIfInBounds_toArray, List.set_cons_zero, List.set_cons_succ]
                    refine wpAnyH_ready (rs := [6]) (by kernel_rfl) (by simp) ?_
                    refine AllReadyH.cons rfl (fun K hK => ?_) ?_
                    ·
                      refine op_appG (base := z0.heap.size) (v := v3) (n := L.length) (xs := xs) (news := (#[.int .i64 (X + 1), .string ⟨#[]⟩, .string ⟨#[]⟩, .int .i64 0, .string E, .slice tuo q.doc.tups.length tc, .slice noo q.doc.notes.length nc] : Array Value).toList) (ad := ⟨g5, 0, none⟩) (m := 1) (c := 1) rfl Tryd.underlying31 infoPub rfl (by decide) rfl rfl hR (by decide) rfl (fun j u hj => by rw [add_cell]; have := boxedCell bg5 (0 + j); rw [this]; simpa using hj) (by intro u hu; simp at hu; rcases hu with rfl | rfl | rfl | rfl | rfl | rfl | rfl <;> rfl) (by decide) (by omega) hZ.size (fun v6 c83 h2 h3 h4 => ?_)
                      have hZn := hZ.grown h3 hZ.size (fun k hk => (World.ownsRow.lt hR k hk).1)
                      have hRn := h2
                      have bg5n := blk_grownO bg5 h3 eg5
                      have eg5n : some g5 ≠ Value.ownBlock v6 := fun e => by
                        rcases h4 with h4 | h4
                        · exact eg5 (e.trans h4)
                        · rw [h4] at e; injection e with e; have := Blk.lt bg5; omega
                      have bgNn := blk_grownO bgN h3 egN
                      have egNn : some gN ≠ Value.ownBlock v6 := fun e => by
                        rcases h4 with h4 | h4
                        · exact egN (e.trans h4)
                        · rw [h4] at e; injection e with e; have := Blk.lt bgN; omega
                      clear hZ hR h2
                      have hZ := hZn
                      have hR := hRn
                      clear hZn hRn h3 h4
                      clear bg5 eg5
                      have bg5 := bg5n
                      have eg5 := eg5n
                      clear bg5n eg5n
                      clear bgN egN
                      have bgN := bgNn
                      have egN := egNn
                      clear bgNn egNn
                      refine hK.out _ _ ?_ (fun hHeld => ?_)
                      focus ((try dsimp only); exact HS7.out _ hZ)
                      clear hK K
                      try simp only [Act.put, List.getElem_toArray, List.getElem_cons_zero, List.getElem_cons_succ, List.setIfInBounds_toArray, List.set_cons_zero, List.set_cons_succ]
                      refine wpAnyH_ready (rs := [7]) (by kernel_rfl) (by simp) ?_
                      refine AllReadyH.cons rfl (fun K hK => ?_) ?_
                      ·
                        have hpubs : RPubs c83 v6 (L ++ [⟨X + 1, q.doc⟩]) := RPubs.of_rows (xs := xs ++ (#[.int .i64 (X + 1), .string ⟨#[]⟩, .string ⟨#[]⟩, .int .i64 0, .string E, .slice tuo q.doc.tups.length tc, .slice noo q.doc.notes.length nc] : Array Value).toList) (by rw [List.length_append]; exact RRow.of_own hR) (PubRows.snoc (HXP.out.below (HBz.out.trans (hZ.mono HBz.out.size)) (Nat.le_refl _)) ⟨⟨#[]⟩, ⟨#[]⟩, 0, _, _, by rw [HSE.out], HKT.out.1.below (HBz.out.trans (hZ.mono HBz.out.size)) (Nat.le_refl _), RRow.below HKT.out.2 (HBz.out.trans (hZ.mono HBz.out.size)) (Nat.le_refl _)⟩)
                        go_simp
                        go_at_call 7
                        refine (HC3.out _ (HM.out.below (HBz.out.trans (hZ.mono HBz.out.size))) _ hpubs).mono ?_
                        rintro e c84 ⟨u1, u2, rfl, k1, k2, fr1, fr2, hC⟩
                        have HK2 := Lib.hid (And.intro k1 k2)
                        obtain ⟨co, cc, rfl, hcc⟩ := k1.cap
                        obtain ⟨eo, ec, rfl, hec⟩ := k2.cap
                        have hZn := hZ.trans (hC.mono hZ.size)
                        have bgNn := Blk.call bgN hC
                        have hOf : Offs gN (.slice co A.1.tups.length cc) A.1.tups ∧ Offs gN (.slice eo A.1.notes.length ec) A.1.notes := ⟨Offs.fresh fr1 (Blk.lt bgN), Offs.fresh fr2 (Blk.lt bgN)⟩
                        clear bgN egN
                        have bgN := bgNn
                        clear bgNn
                        clear hZ hR bg5 eg5 k1 k2 fr1 fr2 hC hpubs
                        have hZ := hZn
                        clear hZn
                        (try dsimp only)
                        refine hK.out _ _ ?_ (fun hHeld => ?_)
                        focus ((try dsimp only); exact HS7.out _ hZ)
                        clear hK K
                        try simp only [Act.put, List.getElem_toArray, List.getElem_cons_zero, List.getElem_cons_succ, List.setIfInBounds_toArray, List.set_cons_zero, List.set_cons_succ]
                        refine wpAnyH_take (i := 8) (v := ?_) rfl (by kernel_rfl) (by kernel_rfl) (by kernel_rfl) (fun _ _ _ h => h) (Or.inl ⟨by rfl, ?_⟩) (by assumption) ?_
                        rotate_left
                        focus (intro _ hSw; (try dsimp only at hSw); go_simp; try (with_reducible rfl))
                        try simp only [Act.put, List.getElem_toArray, List.getElem_cons_zero, List.getElem_cons_succ, List.setIfInBounds_toArray, List.set_cons_zero, List.set_cons_succ]
                        refine wpAnyH_take (i := 9) (v := ?_) rfl (by kernel_rfl) (by kernel_rfl) (by kernel_rfl) (fun _ _ _ h => h) (Or.inl ⟨by rfl, ?_⟩) (by assumption) ?_
                        rotate_left
                        focus (intro _ hSw; (try dsimp only at hSw); go_simp; try (with_reducible rfl))
                        try simp only [Act.put, List.getElem_toArray, List.getElem_cons_zero, List.getElem_cons_succ, List.setIfInBounds_toArray, List.set_cons_zero, List.set_cons_succ]
                        refine wpAnyH_take (i := 10) (v := ?_) rfl (by kernel_rfl) (by kernel_rfl) (by kernel_rfl) (fun _ _ _ h => h) (Or.inl ⟨by rfl, ?_⟩) (by assumption) ?_
                        rotate_left
                        focus (intro _ hSw; (try dsimp only at hSw); go_simp; try (with_reducible rfl))
                        try simp only [Act.put, List.getElem_toArray, List.getElem_cons_zero, List.getElem_cons_succ, List.setIfInBounds_toArray, List.set_cons_zero, List.set_cons_succ]
                        refine wpAnyH_ready (rs := [12]) (by kernel_rfl) (by simp) ?_
                        refine AllReadyH.cons rfl (fun K hK => ?_) ?_
                        ·
                          rw [if_pos (by rfl)]
                          refine wp_store_row _ _ _ rfl _ #[sv A.1.ent, .slice co A.1.tups.length cc, .slice eo A.1.notes.length ec] rfl rfl _ _ bgN (by kernel_rfl) (by rfl) (by kernel_rfl) ?_
                          try go_simp
                          refine hK.out _ _ ?_ (fun hHeld => ?_)
                          focus ((try dsimp only); exact HS7.out _ (Below.setRow hZ fN _))
                          clear hK K
                          try simp only [Act.put, List.getElem_toArray, List.getElem_cons_zero, List.getElem_cons_succ, List.setIfInBounds_toArray, List.set_cons_zero, List.set_cons_succ]
                          obtain ⟨c85, hc85⟩ : ∃ z, z = World.setRow c84 gN #[sv A.1.ent, .slice co A.1.tups.length cc, .slice eo A.1.notes.length ec] := ⟨_, rfl⟩
                          have hZf : Below z0.heap.size z0 c85 := by rw [hc85]; exact Below.setRow hZ fN _
                          have bF : Blk c85 gN 25 #[sv A.1.ent, .slice co A.1.tups.length cc, .slice eo A.1.notes.length ec] := by rw [hc85]; exact Blk.row bgN _
                          have HKF := Lib.hid (show RTups c85 (.slice co A.1.tups.length cc) A.1.tups ∧ RStrs c85 (.slice eo A.1.notes.length ec) A.1.notes from by rw [hc85]; exact ⟨RRow.rowT HK2.out.1 hOf.1, RRow.rowS HK2.out.2 hOf.2⟩)
                          rw [← hc85] at hHeld ⊢
                          clear hc85 hZ bgN HK2 hOf fN
                          obtain ⟨wf, hwf⟩ : ∃ z, z = c85 := ⟨_, rfl⟩
                          subst hwf
                          refine wpAnyH_take (i := 13) (v := ?_) rfl (by kernel_rfl) (by kernel_rfl) (by kernel_rfl) (fun _ _ _ h => h) (Or.inl ⟨by rfl, ?_⟩) (by assumption) ?_
                          rotate_left
                          focus (intro _ hSw; (try dsimp only at hSw); go_simp; try (with_reducible rfl))
                          try simp only [Act.put, List.getElem_toArray, List.getElem_cons_zero, List.getElem_cons_succ, List.setIfInBounds_toArray, List.set_cons_zero, List.set_cons_succ]
                          refine wpAnyH_done (by kernel_rfl) ?_ _
                          have hZ := hZf
                          clear hZf
                          have hBF := HBz.out.trans (hZ.mono HBz.out.size)
                          have h3F := HB3z.out.trans (hZ.mono HB3z.out.size)
                          have hmF := HM.out.below hBF
                          obtain ⟨p0, p1, p2⟩ := blk_f3T (Blk.call HBA.out h3F)
                          obtain ⟨q0, q1, q2⟩ := blk_f3T bF
                          have hsd := fun wx va vb hx hy => sameDoc_c va vb A.1 A.1 wx hx hy
                          rw [sameDoc_self] at hsd
                          have HSD := Lib.hid hsd
                          have HD1 := Lib.hid (show RDoc _ (.agg #[sv A.1.ent, .slice ao A.1.tups.length ac, .slice bo A.1.notes.length bc]) A.1 from ⟨_, _, rfl, HJ.out.1.below h3F (Nat.le_refl _), RRow.below HJ.out.2 h3F (Nat.le_refl _)⟩)
                          have HD2 := Lib.hid (show RDoc _ (.agg #[sv A.1.ent, .slice co A.1.tups.length cc, .slice eo A.1.notes.length ec]) A.1 from ⟨_, _, rfl, HKF.out.1, HKF.out.2⟩)
                          clear hsd bF hHeld
                          go_wp2_with (first | (go_at_call 9; refine (HSD.out _ _ _ HD1.out HD2.out).mono ?_; rintro e w17 ⟨rfl, hC7⟩; have hm7 := hmF.below hC7) | (go_at_call 8; refine (HAW.out _ hm7).mono ?_; rintro e w18 ⟨rfl, hC8⟩))
                          go_ret
                          exact ⟨rfl, (hBF.trans (hC7.mono hBF.size)).trans (hC8.mono (Nat.le_trans hBF.size hC7.size))⟩
                        exact AllReadyH.nil
                      exact AllReadyH.nil
                    exact AllReadyH.nil
                  exact AllReadyH.nil
                exact AllReadyH.nil
              refine AllReadyH.cons rfl (fun K hK => ?_) ?_
              ·
                obtain ⟨g5, hg5⟩ : ∃ g, g = c74.heap.size := ⟨_, rfl⟩
                obtain ⟨c86, hc86⟩ : ∃ z, z = c74.alloc (.cells #[.int .i64 (X + 1), .string ⟨#[]⟩, .string ⟨#[]⟩, .int .i64 0, .string E, .slice tuo q.doc.tups.length tc, .slice noo q.doc.notes.length nc] 27) := ⟨_, rfl⟩
                have hZn : Below z0.heap.size z0 c86 := by rw [hc86]; exact hZ.alloc hZ.size _
                have bg5n : Blk c86 g5 27 #[.int .i64 (X + 1), .string ⟨#[]⟩, .string ⟨#[]⟩, .int .i64 0, .string E, .slice tuo q.doc.tups.length tc, .slice noo q.doc.notes.length nc] := by rw [hc86, hg5]; exact Blk.new _ _ _
                have bgNn : Blk c86 gN 25 #[.string ⟨#[]⟩, .slice none 0 0, .slice none 0 0] := by rw [hc86]; exact Blk.alloc bgN _
                go_simp
                refine hK.out _ _ ?_ (fun hHeld => ?_)
                focus ((try dsimp only); first | exact HS7.out _ hZn | (rw [← hc86]; exact HS7.out _ hZn))
                clear hK K
                try simp only [Act.put, List.getElem_toArray, List.getElem_cons_zero, List.getElem_cons_succ, List.setIfInBounds_toArray, List.set_cons_zero, List.set_cons_succ]
                rw [← hc86] at hHeld ⊢
                try simp only [← hg5]
                clear hZ
                have hZ := hZn
                clear hZn
                have bg5 := bg5n
                clear bg5n
                clear bgN
                have bgN := bgNn
                clear bgNn
                clear hc86 hg5
                refine wpAnyH_ready (rs := [1]) (by kernel_rfl) (by simp) ?_
                refine AllReadyH.cons rfl (fun K hK => ?_) ?_
                ·
                  obtain ⟨g1, hg1⟩ : ∃ g, g = c86.heap.size := ⟨_, rfl⟩
                  obtain ⟨c87, hc87⟩ : ∃ z, z = c86.alloc (.cells #[] 27) := ⟨_, rfl⟩
                  have hZn : Below z0.heap.size z0 c87 := by rw [hc87]; exact hZ.alloc hZ.size _
                  have bg5n : Blk c87 g5 27 #[.int .i64 (X + 1), .string ⟨#[]⟩, .string ⟨#[]⟩, .int .i64 0, .string E, .slice tuo q.doc.tups.length tc, .slice noo q.doc.notes.length nc] := by rw [hc87]; exact Blk.alloc bg5 _
                  have bgNn : Blk c87 gN 25 #[.string ⟨#[]⟩, .slice none 0 0, .slice none 0 0] := by rw [hc87]; exact Blk.alloc bgN _
                  have hRn : c87.ownsRow z0.heap.size 27 7 (.slice (some ⟨g1, 0, none⟩) 0 0) 0 [] := by rw [hc87, hg1]; exact World.ownsRow_lit (base := z0.heap.size) (e := 27) (size := 7) c86 #[] 0 hZ.size (by decide) rfl
                  have eg5 : some g5 ≠ (Value.ownBlock (.slice (some ⟨g1, 0, none⟩) 0 0)) := fun e => by have := Blk.lt bg5; have e2 : g5 = g1 := Option.some.inj e; omega
                  have egN : some gN ≠ (Value.ownBlock (.slice (some ⟨g1, 0, none⟩) 0 0)) := fun e => by have := Blk.lt bgN; have e2 : gN = g1 := Option.some.inj e; omega
                  go_simp
                  refine hK.out _ _ ?_ (fun hHeld => ?_)
                  focus ((try dsimp only); first | exact HS7.out _ hZn | (rw [← hc87]; exact HS7.out _ hZn))
                  clear hK K
                  try simp only [Act.put, List.getElem_toArray, List.getElem_cons_zero, List.getElem_cons_succ, List.setIfInBounds_toArray, List.set_cons_zero, List.set_cons_succ]
                  rw [← hc87] at hHeld ⊢
                  try simp only [← hg1]
                  clear hZ
                  have hZ := hZn
                  clear hZn
                  skip
                  have hR := hRn
                  clear hRn
                  clear bg5
                  have bg5 := bg5n
                  clear bg5n
                  clear bgN
                  have bgN := bgNn
                  clear bgNn
                  clear hc87 hg1
                  refine wpAnyH_ready (rs := [3]) (by kernel_rfl) (by simp) ?_
                  refine AllReadyH.cons rfl (fun K hK => ?_) ?_
                  ·
                    refine op_appG (base := z0.heap.size) (v := (.slice (some ⟨g1, 0, none⟩) 0 0)) (n := 0) (xs := []) (news := xs) (ad := ⟨b, off, none⟩) (m := L.length) (c := pc) rfl Tryd.underlying31 infoPub rfl (by decide) rfl rfl hR (by omega) HXL.out (HXC.out _ (HBz.out.trans (hZ.mono HBz.out.size))) HX1.out (by decide) (by omega) hZ.size (fun v3 c88 h2 h3 h4 => ?_)
                    have hZn := hZ.grown h3 hZ.size (fun k hk => (World.ownsRow.lt hR k hk).1)
                    have hRn : c88.ownsRow z0.heap.size 27 7 v3 L.length xs := by simpa using h2
                    have bg5n := blk_grownO bg5 h3 eg5
                    have eg5n : some g5 ≠ Value.ownBlock v3 := fun e => by
                      rcases h4 with h4 | h4
                      · exact eg5 (e.trans h4)
                      · rw [h4] at e; injection e with e; have := Blk.lt bg5; omega
                    have bgNn := blk_grownO bgN h3 egN
                    have egNn : some gN ≠ Value.ownBlock v3 := fun e => by
                      rcases h4 with h4 | h4
                      · exact egN (e.trans h4)
                      · rw [h4] at e; injection e with e; have := Blk.lt bgN; omega
                    clear hZ hR h2
                    have hZ := hZn
                    have hR := hRn
                    clear hZn hRn h3 h4
                    clear bg5 eg5
                    have bg5 := bg5n
                    have eg5 := eg5n
                    clear bg5n eg5n
                    clear bgN egN
                    have bgN := bgNn
                    have egN := egNn
                    clear bgNn egNn
                    refine hK.out _ _ ?_ (fun hHeld => ?_)
                    focus ((try dsimp only); exact HS7.out _ hZ)
                    clear hK K
                    try simp only [Act.put, List.getElem_toArray, List.getElem_cons_zero, List.getElem_cons_succ, List.setIfInBounds_toArray, List.set_cons_zero, List.set_cons_succ]
                    refine wpAnyH_ready (rs := [6]) (by kernel_rfl) (by simp) ?_
                    refine AllReadyH.cons rfl (fun K hK => ?_) ?_
                    ·
                      refine op_appG (base := z0.heap.size) (v := v3) (n := L.length) (xs := xs) (news := (#[.int .i64 (X + 1), .string ⟨#[]⟩, .string ⟨#[]⟩, .int .i64 0, .string E, .slice tuo q.doc.tups.length tc, .slice noo q.doc.notes.length nc] : Array Value).toList) (ad := ⟨g5, 0, none⟩) (m := 1) (c := 1) rfl Tryd.underlying31 infoPub rfl (by decide) rfl rfl hR (by decide) rfl (fun j u hj => by rw [add_cell]; have := boxedCell bg5 (0 + j); rw [this]; simpa using hj) (by intro u hu; simp at hu; rcases hu with rfl | rfl | rfl | rfl | rfl | rfl | rfl <;> rfl) (by decide) (by omega) hZ.size (fun v6 c89 h2 h3 h4 => ?_)
                      have hZn := hZ.grown h3 hZ.size (fun k hk => (World.ownsRow.lt hR k hk).1)
                      have hRn := h2
                      have bg5n := blk_grownO bg5 h3 eg5
                      have eg5n : some g5 ≠ Value.ownBlock v6 := fun e => by
                        rcases h4 with h4 | h4
                        · exact eg5 (e.trans h4)
                        · rw [h4] at e; injection e with e; have := Blk.lt bg5; omega
                      have bgNn := blk_grownO bgN h3 egN
                      have egNn : some gN ≠ Value.ownBlock v6 := fun e => by
                        rcases h4 with h4 | h4
                        · exact egN (e.trans h4)
                        · rw [h4] at e; injection e with e; have := Blk.lt bgN; omega
                      clear hZ hR h2
                      have hZ := hZn
                      have hR := hRn
                      clear hZn hRn h3 h4
                      clear bg5 eg5
                      have bg5 := bg5n
                      have eg5 := eg5n
                      clear bg5n eg5n
                      clear bgN egN
                      have bgN := bgNn
                      have egN := egNn
                      clear bgNn egNn
                      refine hK.out _ _ ?_ (fun hHeld => ?_)
                      focus ((try dsimp only); exact HS7.out _ hZ)
                      clear hK K
                      try simp only [Act.put, List.getElem_toArray, List.getElem_cons_zero, List.getElem_cons_succ, List.setIfInBounds_toArray, List.set_cons_zero, List.set_cons_succ]
                      refine wpAnyH_ready (rs := [7]) (by kernel_rfl) (by simp) ?_
                      refine AllReadyH.cons rfl (fun K hK => ?_) ?_
                      ·
                        have hpubs : RPubs c89 v6 (L ++ [⟨X + 1, q.doc⟩]) := RPubs.of_rows (xs := xs ++ (#[.int .i64 (X + 1), .string ⟨#[]⟩, .string ⟨#[]⟩, .int .i64 0, .string E, .slice tuo q.doc.tups.length tc, .slice noo q.doc.notes.length nc] : Array Value).toList) (by rw [List.length_append]; exact RRow.of_own hR) (PubRows.snoc (HXP.out.below (HBz.out.trans (hZ.mono HBz.out.size)) (Nat.le_refl _)) ⟨⟨#[]⟩, ⟨#[]⟩, 0, _, _, by rw [HSE.out], HKT.out.1.below (HBz.out.trans (hZ.mono HBz.out.size)) (Nat.le_refl _), RRow.below HKT.out.2 (HBz.out.trans (hZ.mono HBz.out.size)) (Nat.le_refl _)⟩)
                        go_simp
                        go_at_call 7
                        refine (HC3.out _ (HM.out.below (HBz.out.trans (hZ.mono HBz.out.size))) _ hpubs).mono ?_
                        rintro e c90 ⟨u1, u2, rfl, k1, k2, fr1, fr2, hC⟩
                        have HK2 := Lib.hid (And.intro k1 k2)
                        obtain ⟨co, cc, rfl, hcc⟩ := k1.cap
                        obtain ⟨eo, ec, rfl, hec⟩ := k2.cap
                        have hZn := hZ.trans (hC.mono hZ.size)
                        have bgNn := Blk.call bgN hC
                        have hOf : Offs gN (.slice co A.1.tups.length cc) A.1.tups ∧ Offs gN (.slice eo A.1.notes.length ec) A.1.notes := ⟨Offs.fresh fr1 (Blk.lt bgN), Offs.fresh fr2 (Blk.lt bgN)⟩
                        clear bgN egN
                        have bgN := bgNn
                        clear bgNn
                        clear hZ hR bg5 eg5 k1 k2 fr1 fr2 hC hpubs
                        have hZ := hZn
                        clear hZn
                        (try dsimp only)
                        refine hK.out _ _ ?_ (fun hHeld => ?_)
                        focus ((try dsimp only); exact HS7.out _ hZ)
                        clear hK K
                        try simp only [Act.put, List.getElem_toArray, List.getElem_cons_zero, List.getElem_cons_succ, List.setIfInBounds_toArray, List.set_cons_zero, List.set_cons_succ]
                        refine wpAnyH_take (i := 8) (v := ?_) rfl (by kernel_rfl) (by kernel_rfl) (by kernel_rfl) (fun _ _ _ h => h) (Or.inl ⟨by rfl, ?_⟩) (by assumption) ?_
                        rotate_left
                        focus (intro _ hSw; (try dsimp only at hSw); go_simp; try (with_reducible rfl))
                        try simp only [Act.put, List.getElem_toArray, List.getElem_cons_zero, List.getElem_cons_succ, List.setIfInBounds_toArray, List.set_cons_zero, List.set_cons_succ]
                        refine wpAnyH_take (i := 9) (v := ?_) rfl (by kernel_rfl) (by kernel_rfl) (by kernel_rfl) (fun _ _ _ h => h) (Or.inl ⟨by rfl, ?_⟩) (by assumption) ?_
                        rotate_left
                        focus (intro _ hSw; (try dsimp only at hSw); go_simp; try (with_reducible rfl))
                        try simp only [Act.put, List.getElem_toArray, List.getElem_cons_zero, List.getElem_cons_succ, List.setIfInBounds_toArray, List.set_cons_zero, List.set_cons_succ]
                        refine wpAnyH_take (i := 10) (v := ?_) rfl (by kernel_rfl) (by kernel_rfl) (by kernel_rfl) (fun _ _ _ h => h) (Or.inl ⟨by rfl, ?_⟩) (by assumption) ?_
                        rotate_left
                        focus (intro _ hSw; (try dsimp only at hSw); go_simp; try (with_reducible rfl))
                        try simp only [Act.put, List.getElem_toArray, List.getElem_cons_zero, List.getElem_cons_succ, List.setIfInBounds_toArray, List.set_cons_zero, List.set_cons_succ]
                        refine wpAnyH_ready (rs := [12]) (by kernel_rfl) (by simp) ?_
                        refine AllReadyH.cons rfl (fun K hK => ?_) ?_
                        ·
                          rw [if_pos (by rfl)]
                          refine wp_store_row _ _ _ rfl _ #[sv A.1.ent, .slice co A.1.tups.length cc, .slice eo A.1.notes.length ec] rfl rfl _ _ bgN (by kernel_rfl) (by rfl) (by kernel_rfl) ?_
                          try go_simp
                          refine hK.out _ _ ?_ (fun hHeld => ?_)
                          focus ((try dsimp only); exact HS7.out _ (Below.setRow hZ fN _))
                          clear hK K
                          try simp only [Act.put, List.getElem_toArray, List.getElem_cons_zero, List.getElem_cons_succ, List.setIfInBounds_toArray, List.set_cons_zero, List.set_cons_succ]
                          obtain ⟨c91, hc91⟩ : ∃ z, z = World.setRow c90 gN #[sv A.1.ent, .slice co A.1.tups.length cc, .slice eo A.1.notes.length ec] := ⟨_, rfl⟩
                          have hZf : Below z0.heap.size z0 c91 := by rw [hc91]; exact Below.setRow hZ fN _
                          have bF : Blk c91 gN 25 #[sv A.1.ent, .slice co A.1.tups.length cc, .slice eo A.1.notes.length ec] := by rw [hc91]; exact Blk.row bgN _
                          have HKF := Lib.hid (show RTups c91 (.slice co A.1.tups.length cc) A.1.tups ∧ RStrs c91 (.slice eo A.1.notes.length ec) A.1.notes from by rw [hc91]; exact ⟨RRow.rowT HK2.out.1 hOf.1, RRow.rowS HK2.out.2 hOf.2⟩)
                          rw [← hc91] at hHeld ⊢
                          clear hc91 hZ bgN HK2 hOf fN
                          obtain ⟨wf, hwf⟩ : ∃ z, z = c91 := ⟨_, rfl⟩
                          subst hwf
                          refine wpAnyH_take (i := 13) (v := ?_) rfl (by kernel_rfl) (by kernel_rfl) (by kernel_rfl) (fun _ _ _ h => h) (Or.inl ⟨by rfl, ?_⟩) (by assumption) ?_
                          rotate_left
                          focus (intro _ hSw; (try dsimp only at hSw); go_simp; try (with_reducible rfl))
                          try simp only [Act.put, List.getElem_toArray, List.getElem_cons_zero, List.getElem_cons_succ, List.setIfInBounds_toArray, List.set_cons_zero, List.set_cons_succ]
                          refine wpAnyH_done (by kernel_rfl) ?_ _
                          have hZ := hZf
                          clear hZf
                          have hBF := HBz.out.trans (hZ.mono HBz.out.size)
                          have h3F := HB3z.out.trans (hZ.mono HB3z.out.size)
                          have hmF := HM.out.below hBF
                          obtain ⟨p0, p1, p2⟩ := blk_f3T (Blk.call HBA.out h3F)
                          obtain ⟨q0, q1, q2⟩ := blk_f3T bF
                          have hsd := fun wx va vb hx hy => sameDoc_c va vb A.1 A.1 wx hx hy
                          rw [sameDoc_self] at hsd
                          have HSD := Lib.hid hsd
                          have HD1 := Lib.hid (show RDoc _ (.agg #[sv A.1.ent, .slice ao A.1.tups.length ac, .slice bo A.1.notes.length bc]) A.1 from ⟨_, _, rfl, HJ.out.1.below h3F (Nat.le_refl _), RRow.below HJ.out.2 h3F (Nat.le_refl _)⟩)
                          have HD2 := Lib.hid (show RDoc _ (.agg #[sv A.1.ent, .slice co A.1.tups.length cc, .slice eo A.1.notes.length ec]) A.1 from ⟨_, _, rfl, HKF.out.1, HKF.out.2⟩)
                          clear hsd bF hHeld
                          go_wp2_with (first | (go_at_call 9; refine (HSD.out _ _ _ HD1.out HD2.out).mono ?_; rintro e w17 ⟨rfl, hC7⟩; have hm7 := hmF.below hC7) | (go_at_call 8; refine (HAW.out _ hm7).mono ?_; rintro e w18 ⟨rfl, hC8⟩))
                          go_ret
                          exact ⟨rfl, (hBF.trans (hC7.mono hBF.size)).trans (hC8.mono (Nat.le_trans hBF.size hC7.size))⟩
                        exact AllReadyH.nil
                      exact AllReadyH.nil
                    exact AllReadyH.nil
                  exact AllReadyH.nil
                exact AllReadyH.nil
              exact AllReadyH.nil
            exact AllReadyH.nil
          exact AllReadyH.nil
        exact AllReadyH.nil

end Go.Proofs.YtbljmjbialinkaaDoor
