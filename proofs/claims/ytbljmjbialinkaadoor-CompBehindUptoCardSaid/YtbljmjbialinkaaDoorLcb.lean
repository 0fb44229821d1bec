/-
  The statement CompBehind: its walk.
-/
import Derived.Test.YtbljmjbialinkaaDoorLcx
namespace Go.Proofs.YtbljmjbialinkaaDoor
set_option linter.unusedSimpArgs false
set_option linter.unusedVariables false
open Go.RowKit Go.Sort Go.Maps


set_option maxRecDepth 100000 in
set_option maxHeartbeats 25600000 in
theorem compBehind_walk (a : ByteArray) (ha : a.size ≤ 1048576) (v : Value) (L : List Pb) (hb : ∀ q ∈ L, PubSz 1048576 q) (hl : L.length ≤ 1048576) (c : Int) (hc0 : 0 ≤ c) (hc1 : c ≤ 18446744073709551615) (w : World) (hm : Ml w) (hv : RPubs w v L) :
    Calls Tryd.prog 4 #[.string a, v, .int .u64 c] w fun e w' => e = .returned (.bool true) ∧ Below w.heap.size w w' := by
  have HM := Lib.hid hm
  have hcb : cntP L ≤ 4611686018427387904 := by
    have h1 := cntP_bd 1048576 L hb
    have h2 : L.length * (2 * 1048576 + 1) ≤ 1048576 * (2 * 1048576 + 1) := Nat.mul_le_mul_right _ hl
    omega
  have HSM := Lib.hid (small17_c v L w hv hcb)
  have HAW := Lib.hid (fun wx hx => awake17_c wx hx)
  have HV := Lib.hid hv
  have HB := Lib.hid hb
  obtain ⟨po, pc, rfl, hpc, hpm⟩ := hv.cap
  unfold maxLen at hpm
  clear hm hv hb hcb
  cases hsm : smallP L with
  | false =>
    rw [hsm] at HSM
    clear hsm
    go_enter Tryd.func4, Tryd.ntmps4
    go_wp2_with (first | (go_at_call 10; refine HSM.out.mono ?_; rintro e w1 ⟨rfl, hC1⟩; have hm1 := HM.out.below hC1) | (go_at_call 8; refine (HAW.out _ hm1).mono ?_; rintro e w2 ⟨rfl, hC2⟩))
    go_ret
    exact ⟨rfl, hC1.trans (hC2.mono hC1.size)⟩
  | true =>
    have hl4 := small_len L hsm
    rw [hsm] at HSM
    clear hsm hl
    obtain ⟨K, hK, hKL⟩ : ∃ K : Nat, c % ((L.length : Int) + 1) = (K : Int) ∧ K ≤ L.length := ⟨(c % ((L.length : Int) + 1)).toNat, (Int.toNat_of_nonneg (Int.emod_nonneg _ (by omega))).symm, by have := Int.emod_lt_of_pos c (show (0 : Int) < (L.length : Int) + 1 by omega); have := Int.emod_nonneg c (show (L.length : Int) + 1 ≠ 0 by omega); omega⟩
    have HC1 := Lib.hid (fun wx hx vv hL => compose_c (us a) vv L (by rw [length_us]; exact ha) (fun q hq => (HB.out q hq).1) (by omega) wx hx hL)
    have HC2 := Lib.hid (fun wx hx vv hL => compose_c (us a) vv (L.take K) (by rw [length_us]; exact ha) (fun q hq => (HB.out q (List.mem_of_mem_take hq)).1) (by rw [List.length_take]; omega) wx hx hL)
    have hsv : sv (us a) = .string a := by unfold sv; rw [bs_us]
    rw [hsv] at HC1 HC2
    have HFR := Lib.hid (fun h => compose_front candP okDoc (us a) L K h)
    have HVK := Lib.hid (HV.out.front K hKL)
    obtain ⟨A, hA⟩ : ∃ A, A = composeS candP okDoc (us a) L := ⟨_, rfl⟩
    obtain ⟨B, hB⟩ : ∃ A, A = composeS candP okDoc (us a) (L.take K) := ⟨_, rfl⟩
    rw [← hA] at HC1 HFR
    rw [← hB] at HC2 HFR
    have HSV := Lib.hid hsv
    clear hA hB hsv
    have kk0 : (0 : Int) ≤ (K : Int) := by omega
    have kk1 : (K : Int) ≤ (pc : Int) := by omega
    go_enter Tryd.func4, Tryd.ntmps4
    go_wp2_with (first | (go_at_call 10; refine HSM.out.mono ?_; rintro e w1 ⟨rfl, hC1⟩; have hm1 := HM.out.below hC1; have hv1 := HV.out.below hC1 (Nat.le_refl _)) | (go_at_call 7; refine (HC1.out _ hm1 _ hv1).mono ?_; rintro e w2 ⟨vd, rfl, hd, hC2⟩; obtain ⟨u1, u2, rfl, k1, k2⟩ := hd; have HK1 := Lib.hid (And.intro k1 k2); obtain ⟨ao, ac, rfl, hac⟩ := k1.cap; obtain ⟨bo, bc, rfl, hbc⟩ := k2.cap; clear k1 k2; have hB2 := hC1.trans (hC2.mono hC1.size)) | (with_reducible refine holdStore 25 rfl ?_))
    unfold Hold
    refine wpList_storeNew (vs := #[sv A.1.ent, .slice ao A.1.tups.length ac, .slice bo A.1.notes.length bc]) rfl rfl rfl rfl (by kernel_rfl) (by rfl) (by rfl) ?_
    have hN := (Below.refl w2.heap.size w2).alloc (Nat.le_refl _) (.cells #[sv A.1.ent, .slice ao A.1.tups.length ac, .slice bo A.1.notes.length bc] 25)
    have bA := Blk.new w2 25 #[sv A.1.ent, .slice ao A.1.tups.length ac, .slice bo A.1.notes.length bc]
    have hB3 := hB2.trans (hN.mono hB2.size)
    have j1 := HK1.out.1.below hN (Nat.le_refl _)
    have j2 := RRow.below HK1.out.2 hN (Nat.le_refl _)
    obtain ⟨gA, hgA⟩ : ∃ g, g = w2.heap.size := ⟨_, rfl⟩
    obtain ⟨w3, hw3⟩ : ∃ z, z = w2.alloc (.cells #[sv A.1.ent, .slice ao A.1.tups.length ac, .slice bo A.1.notes.length bc] 25) := ⟨_, rfl⟩
    rw [← hw3] at hN bA hB3 j1 j2
    rw [← hw3]
    rw [← hgA] at bA
    simp only [← hgA]
    have hm3 := HM.out.below hB3
    have hvk := HVK.out.below hB3 (Nat.le_refl _)
    have HJ := Lib.hid (And.intro j1 j2)
    have HB3 := Lib.hid hB3
    have HBA := Lib.hid bA
    clear hw3 hgA hN bA hB3 j1 j2 hC1 hm1 hv1 hC2 hB2 HK1
    go_wp2_with (first | (go_at_call 7; refine (HC2.out _ hm3 _ hvk).mono ?_; rintro e w4 ⟨vd, rfl, hd, hC4⟩; obtain ⟨u1, u2, rfl, k1, k2⟩ := hd; have HK2 := Lib.hid (And.intro k1 k2); obtain ⟨co, cc, rfl, hcc⟩ := k1.cap; obtain ⟨eo, ec, rfl, hec⟩ := k2.cap; clear k1 k2) | (with_reducible refine holdStore 25 rfl ?_))
    unfold Hold
    refine wpList_storeNew (vs := #[sv B.1.ent, .slice co B.1.tups.length cc, .slice eo B.1.notes.length ec]) rfl rfl rfl rfl (by kernel_rfl) (by rfl) (by rfl) ?_
    have hN := (Below.refl w4.heap.size w4).alloc (Nat.le_refl _) (.cells #[sv B.1.ent, .slice co B.1.tups.length cc, .slice eo B.1.notes.length ec] 25)
    have bB := Blk.new w4 25 #[sv B.1.ent, .slice co B.1.tups.length cc, .slice eo B.1.notes.length ec]
    have hN5 := hC4.trans (hN.mono hC4.size)
    have hB5 := HB3.out.trans (hN5.mono HB3.out.size)
    have bA := Blk.call HBA.out hN5
    have j1 := HJ.out.1.below hN5 (Nat.le_refl _)
    have j2 := RRow.below HJ.out.2 hN5 (Nat.le_refl _)
    have i1 := HK2.out.1.below hN (Nat.le_refl _)
    have i2 := RRow.below HK2.out.2 hN (Nat.le_refl _)
    obtain ⟨gB, hgB⟩ : ∃ g, g = w4.heap.size := ⟨_, rfl⟩
    obtain ⟨w5, hw5⟩ : ∃ z, z = w4.alloc (.cells #[sv B.1.ent, .slice co B.1.tups.length cc, .slice eo B.1.notes.length ec] 25) := ⟨_, rfl⟩
    rw [← hw5] at hN hB5 bA bB j1 j2 i1 i2 hN5
    rw [← hw5]
    rw [← hgB] at bB
    simp only [← hgB]
    have hm5 := HM.out.below hB5
    have HJ5 := Lib.hid (And.intro j1 j2)
    have HI5 := Lib.hid (And.intro i1 i2)
    have HB5 := Lib.hid hB5
    have HBA5 := Lib.hid bA
    have HBB5 := Lib.hid bB
    obtain ⟨p0, p1, p2⟩ := blk_f3T bA
    obtain ⟨q0, q1, q2⟩ := blk_f3T bB
    clear hw5 hgB hN bA bB hB5 hN5 j1 j2 i1 i2 hC4 hm3 hvk HK2 HJ HB3 HBA
    by_cases he : A.2 = 0
    case neg =>
      have t0 : (A.2 != 0) = true := by simpa using he
      clear he
      go_wp2_with (go_at_call 8; refine (HAW.out _ hm5).mono ?_; rintro e w6 ⟨rfl, hC6⟩)
      go_ret
      exact ⟨rfl, HB5.out.trans (hC6.mono HB5.out.size)⟩
    case pos =>
      obtain ⟨f1, f2, xs, ys, f3, f4⟩ := HFR.out he
      have t0 : (A.2 != 0) = false := by rw [he]; rfl
      have t1 : (B.2 != 0) = false := by rw [f1]; rfl
      have n1 : B.1.tups.length ≤ A.1.tups.length := by rw [f3, List.length_append]; omega
      have n2 : B.1.notes.length ≤ A.1.notes.length := by rw [f4, List.length_append]; omega
      have t2 : ¬ (A.1.tups.length : Int) < (B.1.tups.length : Int) := by omega
      have t3 : ¬ (A.1.notes.length : Int) < (B.1.notes.length : Int) := by omega
      have m1 : (0 : Int) ≤ (B.1.tups.length : Int) := by omega
      have m2 : (B.1.tups.length : Int) ≤ (ac : Int) := by omega
      have m3 : (0 : Int) ≤ (B.1.notes.length : Int) := by omega
      have m4 : (B.1.notes.length : Int) ≤ (bc : Int) := by omega
      have HEN := Lib.hid (show B.1 = ⟨us a, B.1.tups, B.1.notes⟩ by rw [← f2])
      have HT3 := Lib.hid (RTups.front HJ5.out.1 f3)
      have HT4 := Lib.hid (RStrs.front HJ5.out.2 f4)
      clear he f1 f2 f3 f4
      go_upto_region 10 with fail
      have HS := Lib.hid (fun (wx : World) (h : Below w5.heap.size w5 wx) => (show wx.cell? ⟨gA, 1, none⟩ = some (.slice ao A.1.tups.length ac) ∧ wx.cell? ⟨gA, 2, none⟩ = some (.slice bo A.1.notes.length bc) ∧ wx.cell? ⟨gB, 1, none⟩ = some (.slice co B.1.tups.length cc) ∧ wx.cell? ⟨gB, 2, none⟩ = some (.slice eo B.1.notes.length ec) from ⟨boxedCell (Blk.call HBA5.out h) 1, boxedCell (Blk.call HBA5.out h) 2, boxedCell (Blk.call HBB5.out h) 1, boxedCell (Blk.call HBB5.out h) 2⟩))
      clear p0 p1 p2 q0 q1 q2
      have hZ : Below w5.heap.size w5 w5.drew := Drn.below ⟨1, rfl⟩
      refine wp_region_held_drew (S := fun wx => wx.cell? ⟨gA, 1, none⟩ = some (.slice ao A.1.tups.length ac) ∧ wx.cell? ⟨gA, 2, none⟩ = some (.slice bo A.1.notes.length bc) ∧ wx.cell? ⟨gB, 1, none⟩ = some (.slice co B.1.tups.length cc) ∧ wx.cell? ⟨gB, 2, none⟩ = some (.slice eo B.1.notes.length ec)) (by kernel_rfl) (HS.out _ hZ) (fun hHeld => ?_)
      refine wpAnyH_take (i := 0) (v := ?_) rfl (by kernel_rfl) (by kernel_rfl) (by kernel_rfl) (fun _ _ _ h => h) (Or.inl ⟨by rfl, ?_⟩) (by assumption) ?_
      rotate_left
      focus (intro _ hSw; (try dsimp only at hSw); go_simp; try (with_reducible rfl))
      try simp only [Act.put, List.getElem_toArray, List.getElem_cons_zero, List.getElem_cons_succ, List.setIfInBounds_toArray, List.set_cons_zero, List.set_cons_succ]
      refine wpAnyH_take (i := 1) (v := ?_) rfl (by kernel_rfl) (by kernel_rfl) (by kernel_rfl) (fun _ _ _ h => h) (Or.inl ⟨by rfl, ?_⟩) (by assumption) ?_
      rotate_left
      focus (intro _ hSw; (try dsimp only at hSw); go_simp; try (with_reducible rfl))
      try simp only [Act.put, List.getElem_toArray, List.getElem_cons_zero, List.getElem_cons_succ, List.setIfInBounds_toArray, List.set_cons_zero, List.set_cons_succ]
      refine wpAnyH_take (i := 2) (v := ?_) rfl (by kernel_rfl) (by kernel_rfl) (by kernel_rfl) (fun _ _ _ h => h) (Or.inl ⟨by rfl, ?_⟩) (by assumption) ?_
      rotate_left
      focus (intro _ hSw; (try dsimp only at hSw); go_simp; try (with_reducible rfl))
      try simp only [Act.put, List.getElem_toArray, List.getElem_cons_zero, List.getElem_cons_succ, List.setIfInBounds_toArray, List.set_cons_zero, List.set_cons_succ]
      refine wpAnyH_take (i := 3) (v := ?_) rfl (by kernel_rfl) (by kernel_rfl) (by kernel_rfl) (fun _ _ _ h => h) (Or.inl ⟨by rfl, ?_⟩) (by assumption) ?_
      rotate_left
      focus (intro _ hSw; (try dsimp only at hSw); go_simp; try (with_reducible rfl))
      try simp only [Act.put, List.getElem_toArray, List.getElem_cons_zero, List.getElem_cons_succ, List.setIfInBounds_toArray, List.set_cons_zero, List.set_cons_succ]
      refine wpAnyH_take (i := 4) (v := ?_) rfl (by kernel_rfl) (by kernel_rfl) (by kernel_rfl) (fun _ _ _ h => h) (Or.inl ⟨by rfl, ?_⟩) (by assumption) ?_
      rotate_left
      focus (intro _ hSw; (try dsimp only at hSw); go_simp; try (with_reducible rfl))
      try simp only [Act.put, List.getElem_toArray, List.getElem_cons_zero, List.getElem_cons_succ, List.setIfInBounds_toArray, List.set_cons_zero, List.set_cons_succ]
      refine wpAnyH_take (i := 5) (v := ?_) rfl (by kernel_rfl) (by kernel_rfl) (by kernel_rfl) (fun _ _ _ h => h) (Or.inl ⟨by rfl, ?_⟩) (by assumption) ?_
      rotate_left
      focus (intro _ hSw; (try dsimp only at hSw); go_simp; try (with_reducible rfl))
      try simp only [Act.put, List.getElem_toArray, List.getElem_cons_zero, List.getElem_cons_succ, List.setIfInBounds_toArray, List.set_cons_zero, List.set_cons_succ]
      refine wpAnyH_take (i := 6) (v := ?_) rfl (by kernel_rfl) (by kernel_rfl) (by kernel_rfl) (fun _ _ _ h => h) (Or.inl ⟨by rfl, ?_⟩) (by assumption) ?_
      rotate_left
      focus (intro _ hSw; (try dsimp only at hSw); go_simp; try (with_reducible rfl))
      try simp only [Act.put, List.getElem_toArray, List.getElem_cons_zero, List.getElem_cons_succ, List.setIfInBounds_toArray, List.set_cons_zero, List.set_cons_succ]
      refine wpAnyH_take (i := 7) (v := ?_) rfl (by kernel_rfl) (by kernel_rfl) (by kernel_rfl) (fun _ _ _ h => h) (Or.inl ⟨by rfl, ?_⟩) (by assumption) ?_
      rotate_left
      focus (intro _ hSw; (try dsimp only at hSw); go_simp; try (with_reducible rfl))
      try simp only [Act.put, List.getElem_toArray, List.getElem_cons_zero, List.getElem_cons_succ, List.setIfInBounds_toArray, List.set_cons_zero, List.set_cons_succ]
      refine wpAnyH_take (i := 8) (v := ?_) rfl (by kernel_rfl) (by kernel_rfl) (by kernel_rfl) (fun _ _ _ h => h) (Or.inl ⟨by rfl, ?_⟩) (by assumption) ?_
      rotate_left
      focus (intro _ hSw; (try dsimp only at hSw); go_simp; try (with_reducible rfl))
      try simp only [Act.put, List.getElem_toArray, List.getElem_cons_zero, List.getElem_cons_succ, List.setIfInBounds_toArray, List.set_cons_zero, List.set_cons_succ]
      refine wpAnyH_take (i := 9) (v := ?_) rfl (by kernel_rfl) (by kernel_rfl) (by kernel_rfl) (fun _ _ _ h => h) (Or.inl ⟨by rfl, ?_⟩) (by assumption) ?_
      rotate_left
      focus (intro _ hSw; (try dsimp only at hSw); go_simp; try (with_reducible rfl))
      try simp only [Act.put, List.getElem_toArray, List.getElem_cons_zero, List.getElem_cons_succ, List.setIfInBounds_toArray, List.set_cons_zero, List.set_cons_succ]
      refine wpAnyH_take (i := 10) (v := ?_) rfl (by kernel_rfl) (by kernel_rfl) (by kernel_rfl) (fun _ _ _ h => h) (Or.inl ⟨by rfl, ?_⟩) (by assumption) ?_
      rotate_left
      focus (intro _ hSw; (try dsimp only at hSw); go_simp; try (with_reducible rfl))
      try simp only [Act.put, List.getElem_toArray, List.getElem_cons_zero, List.getElem_cons_succ, List.setIfInBounds_toArray, List.set_cons_zero, List.set_cons_succ]
      refine wpAnyH_take (i := 11) (v := ?_) rfl (by kernel_rfl) (by kernel_rfl) (by kernel_rfl) (fun _ _ _ h => h) (Or.inl ⟨by rfl, ?_⟩) (by assumption) ?_
      rotate_left
      focus (intro _ hSw; (try dsimp only at hSw); go_simp; try (with_reducible rfl))
      try simp only [Act.put, List.getElem_toArray, List.getElem_cons_zero, List.getElem_cons_succ, List.setIfInBounds_toArray, List.set_cons_zero, List.set_cons_succ]
      refine wpAnyH_take (i := 12) (v := ?_) rfl (by kernel_rfl) (by kernel_rfl) (by kernel_rfl) (fun _ _ _ h => h) (Or.inl ⟨by rfl, ?_⟩) (by assumption) ?_
      rotate_left
      focus (intro _ hSw; (try dsimp only at hSw); go_simp; try (with_reducible rfl))
      try simp only [Act.put, List.getElem_toArray, List.getElem_cons_zero, List.getElem_cons_succ, List.setIfInBounds_toArray, List.set_cons_zero, List.set_cons_succ]
      refine wpAnyH_take (i := 13) (v := ?_) rfl (by kernel_rfl) (by kernel_rfl) (by kernel_rfl) (fun _ _ _ h => h) (Or.inl ⟨by rfl, ?_⟩) (by assumption) ?_
      rotate_left
      focus (intro _ hSw; (try dsimp only at hSw); go_simp; try (with_reducible rfl))
      try simp only [Act.put, List.getElem_toArray, List.getElem_cons_zero, List.getElem_cons_succ, List.setIfInBounds_toArray, List.set_cons_zero, List.set_cons_succ]
      refine wpAnyH_ready (rs := [14]) (by kernel_rfl) (by simp) ?_
      refine AllReadyH.cons rfl (fun K hK => ?_) ?_
      ·
        go_simp
        refine hK.out _ _ ?_ (fun hHeld => ?_)
        focus ((try dsimp only); first | exact HS.out _ hZ | exact HS.out _ (hZ.alloc hZ.size _) | exact HS.out _ (Below.setRow (hZ.alloc hZ.size _) (Nat.le_refl _) _))
        clear hK K
        try simp only [Act.put, List.getElem_toArray, List.getElem_cons_zero, List.getElem_cons_succ, List.setIfInBounds_toArray, List.set_cons_zero, List.set_cons_succ]
        refine wpAnyH_ready (rs := [15]) (by kernel_rfl) (by simp) ?_
        refine AllReadyH.cons rfl (fun K hK => ?_) ?_
        ·
          rw [if_pos (by rfl)]
          refine wp_store_row _ _ _ rfl _ #[.string a, .slice ao B.1.tups.length ac, .slice bo B.1.notes.length bc] rfl rfl _ _ (Blk.new w5.drew 25 #[.string ⟨#[]⟩, .slice none 0 0, .slice none 0 0]) (by kernel_rfl) (by rfl) (by kernel_rfl) ?_
          try go_simp
          refine hK.out _ _ ?_ (fun hHeld => ?_)
          focus ((try dsimp only); first | exact HS.out _ hZ | exact HS.out _ (hZ.alloc hZ.size _) | exact HS.out _ (Below.setRow (hZ.alloc hZ.size _) (Nat.le_refl _) _))
          clear hK K
          try simp only [Act.put, List.getElem_toArray, List.getElem_cons_zero, List.getElem_cons_succ, List.setIfInBounds_toArray, List.set_cons_zero, List.set_cons_succ]
          refine wpAnyH_done (by kernel_rfl) ?_ _
          clear hHeld
          obtain ⟨w6, hw6⟩ : ∃ z, z = World.setRow (World.drew (w5.alloc (.cells #[.string ⟨#[]⟩, .slice none 0 0, .slice none 0 0] 25))) w5.heap.size #[.string a, .slice ao B.1.tups.length ac, .slice bo B.1.notes.length bc] := ⟨_, rfl⟩
          have hZ6 : Below w5.heap.size w5 w6 := by rw [hw6]; exact Below.setRow (((Below.refl w5.heap.size w5).alloc (Nat.le_refl _) _).trans (Drn.below ⟨1, rfl⟩)) (Nat.le_refl _) _
          have bC : Blk w6 w5.heap.size 25 #[.string a, .slice ao B.1.tups.length ac, .slice bo B.1.notes.length bc] := by rw [hw6]; exact Blk.row (show Blk (World.drew (w5.alloc (.cells #[.string ⟨#[]⟩, .slice none 0 0, .slice none 0 0] 25))) w5.heap.size 25 #[.string ⟨#[]⟩, .slice none 0 0, .slice none 0 0] from Blk.new w5 _ _) _
          rw [← hw6]
          clear hw6
          have hB6 := HB5.out.trans (hZ6.mono HB5.out.size)
          have hm6 := HM.out.below hB6
          obtain ⟨q0, q1, q2⟩ := blk_f3T (Blk.call HBB5.out hZ6)
          obtain ⟨r0, r1, r2⟩ := blk_f3T bC
          have hsd := fun wx va vb hx hy => sameDoc_c va vb B.1 ⟨us a, B.1.tups, B.1.notes⟩ wx hx hy
          rw [sameDoc_of HEN.out] at hsd
          have HSD := Lib.hid hsd
          have HD1 := Lib.hid (show RDoc w6 (.agg #[sv B.1.ent, .slice co B.1.tups.length cc, .slice eo B.1.notes.length ec]) B.1 from ⟨_, _, rfl, HI5.out.1.below hZ6 (Nat.le_refl _), RRow.below HI5.out.2 hZ6 (Nat.le_refl _)⟩)
          have HD2 := Lib.hid (show RDoc w6 (.agg #[.string a, .slice ao B.1.tups.length ac, .slice bo B.1.notes.length bc]) ⟨us a, B.1.tups, B.1.notes⟩ from ⟨_, _, by rw [HSV.out], HT3.out.below hZ6 (Nat.le_refl _), RRow.below HT4.out hZ6 (Nat.le_refl _)⟩)
          clear hsd bC
          go_wp2_with (first | (go_at_call 9; refine (HSD.out _ _ _ HD1.out HD2.out).mono ?_; rintro e w7 ⟨rfl, hC7⟩; have hm7 := hm6.below hC7) | (go_at_call 8; refine (HAW.out _ hm7).mono ?_; rintro e w8 ⟨rfl, hC8⟩))
          go_ret
          exact ⟨rfl, (hB6.trans (hC7.mono hB6.size)).trans (hC8.mono (Nat.le_trans hB6.size hC7.size))⟩
        exact AllReadyH.nil
      exact AllReadyH.nil

end Go.Proofs.YtbljmjbialinkaaDoor
