/-
  rosterlaw17.awake: the chapter's example comes out as it should.
-/
import Derived.Test.YtbljmjbialinkaaDoorAwc
import Derived.Test.YtbljmjbialinkaaDoorSmd
import Derived.Test.YtbljmjbialinkaaDoorCom
import Derived.Deep.RegionHeld3
namespace Go.Proofs.YtbljmjbialinkaaDoor
set_option linter.unusedSimpArgs false
set_option linter.unusedVariables false
open Go.RowKit Go.Sort Go.Maps

def abN : List UInt8 := [97, 64, 98]
def tupX (i : List UInt8) (o : Bool) : Tup := ⟨i, o, [], -1, []⟩
def awL : List Pb := [⟨1, ⟨abN, [tupX [116] true], []⟩⟩, ⟨2, ⟨abN, [tupX [116] false, tupX [117] true], []⟩⟩]
def awD : Doc := ⟨abN, [tupX [116] true, tupX [112, 50, 45, 49] false, tupX [117] true], []⟩
theorem aw_doc : composeS candP okDoc abN awL = (awD, 0) := by decide +kernel
theorem rtups_of {w : World} {b cap : Nat} {t : TypeId} (cs : Array Value) (L : List Tup) (hb : Blk w b t cs) (hc : L.length ≤ cap) (hm : cap ≤ maxLen) (h : cs.toList = L.flatMap rowT) : RTups w (.slice (some ⟨b, 0, none⟩) L.length cap) L := by
  refine .inr ⟨b, 0, cap, rfl, hc, hm, hb.lt, fun j u hj => ?_⟩
  have e : w.cell? ⟨b, 0 + j, none⟩ = cs[0 + j]? := boxedCell hb (0 + j)
  rw [e, ← hj, ← h]; simp

set_option maxRecDepth 100000 in
set_option maxHeartbeats 12800000 in
theorem awake17_c (w : World) (hm : Ml w) :
    Calls Tryd.prog 8 #[] w fun e w' => e = .returned (.bool true) ∧ Below w.heap.size w w' := by
  have HM := Lib.hid hm
  have hcc := fun wx hx v hL => compose_c abN v awL (by decide) (fun p hp => by
    rcases List.mem_cons.1 hp with rfl | hp
    · exact ⟨by decide, by decide, fun t ht => (by rw [List.mem_singleton.1 ht]; exact ⟨by decide, by decide, by decide, by decide, by decide⟩), fun n hn => by cases hn⟩
    · rw [List.mem_singleton.1 hp]
      refine ⟨by decide, by decide, fun t ht => ?_, fun n hn => by cases hn⟩
      rcases List.mem_cons.1 ht with rfl | ht
      · exact ⟨by decide, by decide, by decide, by decide, by decide⟩
      · rw [List.mem_singleton.1 ht]; exact ⟨by decide, by decide, by decide, by decide, by decide⟩) (by decide) wx hx hL
  rw [aw_doc] at hcc
  have HC := Lib.hid hcc
  clear hcc hm
  go_enter Tryd.func8, Tryd.ntmps8
  go_upto_region 2 with (first | (go_at_call 14; ((with_reducible refine (t17_c ⟨#[116]⟩ true _).mono ?_); rintro e w1 ⟨rfl, hC1⟩)) | (go_at_call 14; ((with_reducible refine (t17_c ⟨#[116]⟩ false _).mono ?_); rintro e w2 ⟨rfl, hC2⟩)) | (go_at_call 14; ((with_reducible refine (t17_c ⟨#[117]⟩ true _).mono ?_); rintro e w3 ⟨rfl, hC3⟩)))
  have hA := (Below.refl w1.heap.size w1).alloc (Nat.le_refl _) (.cells #[.string ⟨#[116]⟩, .bool true, .string ⟨#[]⟩, .int .i64 (-1), .string ⟨#[]⟩] 39)
  have bA := Blk.new w1 39 #[.string ⟨#[116]⟩, .bool true, .string ⟨#[]⟩, .int .i64 (-1), .string ⟨#[]⟩]
  have bA3 := Blk.call (Blk.call bA hC2) hC3
  have hAl := hA.size
  have h13 : w1.heap.size < w3.heap.size := bA3.lt
  have hB1 : Below w.heap.size w w3 := ((hC1.trans (hA.mono hC1.size)).trans (hC2.mono (Nat.le_trans hC1.size hA.size))).trans (hC3.mono (Nat.le_trans (Nat.le_trans hC1.size hA.size) hC2.size))
  have hWC : Below w3.heap.size w3 ((w3.alloc (.cells #[.string ⟨#[116]⟩, .bool false, .string ⟨#[]⟩, .int .i64 (-1), .string ⟨#[]⟩, .string ⟨#[117]⟩, .bool true, .string ⟨#[]⟩, .int .i64 (-1), .string ⟨#[]⟩] 39)).alloc (.cells #[.int .i64 1, .string ⟨#[]⟩, .string ⟨#[]⟩, .int .i64 0, .string ⟨#[97, 64, 98]⟩, (.slice (some ⟨w1.heap.size, 0, none⟩) 1 1), .slice none 0 0, .int .i64 2, .string ⟨#[]⟩, .string ⟨#[]⟩, .int .i64 0, .string ⟨#[97, 64, 98]⟩, (.slice (some ⟨w3.heap.size, 0, none⟩) 2 2), .slice none 0 0] 27)) := ((Below.refl _ _).alloc (Nat.le_refl _) _).alloc (by rw [World.size_alloc]; omega) _
  have bB := (Blk.new w3 39 #[.string ⟨#[116]⟩, .bool false, .string ⟨#[]⟩, .int .i64 (-1), .string ⟨#[]⟩, .string ⟨#[117]⟩, .bool true, .string ⟨#[]⟩, .int .i64 (-1), .string ⟨#[]⟩]).alloc (.cells #[.int .i64 1, .string ⟨#[]⟩, .string ⟨#[]⟩, .int .i64 0, .string ⟨#[97, 64, 98]⟩, (.slice (some ⟨w1.heap.size, 0, none⟩) 1 1), .slice none 0 0, .int .i64 2, .string ⟨#[]⟩, .string ⟨#[]⟩, .int .i64 0, .string ⟨#[97, 64, 98]⟩, (.slice (some ⟨w3.heap.size, 0, none⟩) 2 2), .slice none 0 0] 27)
  have bC := Blk.new (w3.alloc (.cells #[.string ⟨#[116]⟩, .bool false, .string ⟨#[]⟩, .int .i64 (-1), .string ⟨#[]⟩, .string ⟨#[117]⟩, .bool true, .string ⟨#[]⟩, .int .i64 (-1), .string ⟨#[]⟩] 39)) 27 #[.int .i64 1, .string ⟨#[]⟩, .string ⟨#[]⟩, .int .i64 0, .string ⟨#[97, 64, 98]⟩, (.slice (some ⟨w1.heap.size, 0, none⟩) 1 1), .slice none 0 0, .int .i64 2, .string ⟨#[]⟩, .string ⟨#[]⟩, .int .i64 0, .string ⟨#[97, 64, 98]⟩, (.slice (some ⟨w3.heap.size, 0, none⟩) 2 2), .slice none 0 0]
  rw [World.size_alloc] at bC
  have bAC := Blk.call bA3 hWC
  obtain ⟨wc, hwc⟩ : ∃ wc, wc = ((w3.alloc (.cells #[.string ⟨#[116]⟩, .bool false, .string ⟨#[]⟩, .int .i64 (-1), .string ⟨#[]⟩, .string ⟨#[117]⟩, .bool true, .string ⟨#[]⟩, .int .i64 (-1), .string ⟨#[]⟩] 39)).alloc (.cells #[.int .i64 1, .string ⟨#[]⟩, .string ⟨#[]⟩, .int .i64 0, .string ⟨#[97, 64, 98]⟩, (.slice (some ⟨w1.heap.size, 0, none⟩) 1 1), .slice none 0 0, .int .i64 2, .string ⟨#[]⟩, .string ⟨#[]⟩, .int .i64 0, .string ⟨#[97, 64, 98]⟩, (.slice (some ⟨w3.heap.size, 0, none⟩) 2 2), .slice none 0 0] 27)) := ⟨_, rfl⟩
  rw [← hwc] at hWC bB bC bAC ⊢
  have hBc := hB1.trans (hWC.mono hB1.size)
  have hPubs : RPubs wc (.slice (some ⟨w3.heap.size + 1, 0, none⟩) 2 2) awL := by
    refine .inr ⟨w3.heap.size + 1, 0, 2, rfl, Nat.le_refl _, by decide, bC.lt, fun j hj => ?_⟩
    match j, hj with
    | 0, _ => exact ⟨boxedCell bC 0, ⟨_, boxedCell bC 1⟩, ⟨_, boxedCell bC 2⟩, ⟨_, boxedCell bC 3⟩, boxedCell bC 4, _, _, boxedCell bC 5, boxedCell bC 6, rtups_of _ [tupX [116] true] bAC (Nat.le_refl _) (by decide) rfl, RRow.nil _⟩
    | 1, _ => exact ⟨boxedCell bC 7, ⟨_, boxedCell bC 8⟩, ⟨_, boxedCell bC 9⟩, ⟨_, boxedCell bC 10⟩, boxedCell bC 11, _, _, boxedCell bC 12, boxedCell bC 13, rtups_of _ [tupX [116] false, tupX [117] true] bB (Nat.le_refl _) (by decide) rfl, RRow.nil _⟩
  have hmc := HM.out.below hBc
  have HBC := Lib.hid hBc
  clear hwc bA bA3 hAl h13 hB1 hWC bB bC bAC hBc hC1 hC2 hC3 hA
  go_wp2_with (first | (go_at_call 7; refine (HC.out _ hmc _ hPubs).mono ?_; rintro e w4 ⟨vd, rfl, hvd, hC4⟩; obtain ⟨u1, u2, rfl, k1, k2⟩ := hvd; have HK := Lib.hid (And.intro k1 k2); obtain ⟨ao, ac, rfl, _, _⟩ := k1.form; obtain ⟨bo, bc, rfl, _, _⟩ := k2.formT; clear k1 k2) | (with_reducible refine holdStore 25 rfl ?_))
  unfold Hold
  refine wpList_storeNew (vs := #[sv awD.ent, .slice ao awD.tups.length ac, .slice bo awD.notes.length bc]) rfl rfl rfl rfl (by kernel_rfl) (by rfl) (by rfl) ?_
  have hN := (Below.refl w4.heap.size w4).alloc (Nat.le_refl _) (.cells #[sv awD.ent, .slice ao awD.tups.length ac, .slice bo awD.notes.length bc] 25)
  have bd := Blk.new w4 25 #[sv awD.ent, .slice ao awD.tups.length ac, .slice bo awD.notes.length bc]
  obtain ⟨gd, hgd⟩ : ∃ g, g = w4.heap.size := ⟨_, rfl⟩
  have k1 := HK.out.1.below hN (Nat.le_refl _)
  have k2 := RRow.below HK.out.2 hN (Nat.le_refl _)
  have hBz := HBC.out.trans (hC4.mono HBC.out.size)
  have hBz2 := hBz.trans (hN.mono hBz.size)
  obtain ⟨z, hz⟩ : ∃ z, z = w4.alloc (.cells #[sv awD.ent, .slice ao awD.tups.length ac, .slice bo awD.notes.length bc] 25) := ⟨_, rfl⟩
  rw [← hz] at hN bd k1 k2 hBz2 ⊢
  rw [← hgd] at bd
  simp only [← hgd]
  have HBZ := Lib.hid hBz2
  have HKZ := Lib.hid (And.intro k1 k2)
  have HBD := Lib.hid bd
  have HS := Lib.hid (fun (wx : World) (h : Below z.heap.size z wx) => (show wx.cell? ⟨gd, 0, none⟩ = some (sv awD.ent) ∧ wx.cell? ⟨gd, 1, none⟩ = some (.slice ao awD.tups.length ac) ∧ wx.cell? ⟨gd, 2, none⟩ = some (.slice bo awD.notes.length bc) from blk_f3T (Blk.call HBD.out h)))
  have HSM := Lib.hid (fun wx va vb hx hy => sameDoc_c va vb awD awD wx hx hy)
  rw [sameDoc_self] at HSM
  clear hz hgd hN bd k1 k2 hBz hBz2 hC4 HC hmc hPubs HK HBC
  go_upto_region 3 with fail
  have hZ : Below z.heap.size z z.drew := Drn.below ⟨1, rfl⟩
  refine wp_region_held_drew (S := fun wx => wx.cell? ⟨gd, 0, none⟩ = some (sv awD.ent) ∧ wx.cell? ⟨gd, 1, none⟩ = some (.slice ao awD.tups.length ac) ∧ wx.cell? ⟨gd, 2, none⟩ = some (.slice bo awD.notes.length bc)) (by kernel_rfl) (HS.out _ hZ) (fun hHeld => ?_)
  refine wpAnyH_take (i := 0) (v := ?_) rfl (by kernel_rfl) (by kernel_rfl) (by kernel_rfl) (fun _ _ _ h => h) (Or.inl ⟨by rfl, ?_⟩) (by assumption) ?_
  rotate_left
  focus (intro _ hSw; (try dsimp only at hSw); go_simp; try (with_reducible rfl))
  try simp only [Act.put, List.getElem_toArray, List.getElem_cons_zero, List.getElem_cons_succ, List.setIfInBounds_toArray, List.set_cons_zero, List.set_cons_succ]
  refine wpAnyH_take (i := 1) (v := ?_) rfl (by kernel_rfl) (by kernel_rfl) (by kernel_rfl) (fun _ _ _ h => h) (Or.inl ⟨by rfl, ?_⟩) (by assumption) ?_
  rotate_left
  focus (intro _ hSw; (try dsimp only at hSw); go_simp; try (with_reducible rfl))
  try simp only [Act.put, List.getElem_toArray, List.getElem_cons_zero, List.getElem_cons_succ, List.setIfInBounds_toArray, List.set_cons_zero, List.set_cons_succ]
  refine wpAnyH_take (i := 2) (v := ?_) rfl (by kernel_rfl) (by kernel_rfl) (by kernel_rfl) (fun _ _ _ h => h) (Or.inl ⟨by rfl, ?_⟩) (by assumption) ?_
  rotate_left
  focus (intro _ hSw; (try dsimp only at hSw); go_simp; try (with_reducible rfl))
  try simp only [Act.put, List.getElem_toArray, List.getElem_cons_zero, List.getElem_cons_succ, List.setIfInBounds_toArray, List.set_cons_zero, List.set_cons_succ]
  refine wpAnyH_take (i := 3) (v := ?_) rfl (by kernel_rfl) (by kernel_rfl) (by kernel_rfl) (fun _ _ _ h => h) (Or.inl ⟨by rfl, ?_⟩) (by assumption) ?_
  rotate_left
  focus (intro _ hSw; (try dsimp only at hSw); go_simp; try (with_reducible rfl))
  try simp only [Act.put, List.getElem_toArray, List.getElem_cons_zero, List.getElem_cons_succ, List.setIfInBounds_toArray, List.set_cons_zero, List.set_cons_succ]
  refine wpAnyH_ready (rs := [4]) (by kernel_rfl) (by simp) ?_
  refine AllReadyH.cons rfl (fun K hK => ?_) ?_
  ·
    go_simp
    go_at_call 14
    refine (t17_c ⟨#[116]⟩ true _).mono ?_
    rintro e z6 ⟨rfl, hC⟩
    replace hZ := hZ.trans (hC.mono hZ.size)
    clear hC
    (try dsimp only)
    refine hK.out _ _ ?_ (fun hHeld => ?_)
    focus ((try dsimp only); first | exact HS.out _ hZ3 | exact HS.out _ hZ2 | exact HS.out _ hZ | exact HS.out _ (hZ.alloc hZ.size _))
    clear hK K
    try simp only [Act.put, List.getElem_toArray, List.getElem_cons_zero, List.getElem_cons_succ, List.setIfInBounds_toArray, List.set_cons_zero, List.set_cons_succ]
    refine wpAnyH_ready (rs := [5]) (by kernel_rfl) (by simp) ?_
    refine AllReadyH.cons rfl (fun K hK => ?_) ?_
    ·
      go_simp
      go_at_call 14
      refine (t17_c ⟨#[112, 50, 45, 49]⟩ false _).mono ?_
      rintro e z6 ⟨rfl, hC⟩
      replace hZ := hZ.trans (hC.mono hZ.size)
      clear hC
      (try dsimp only)
      refine hK.out _ _ ?_ (fun hHeld => ?_)
      focus ((try dsimp only); first | exact HS.out _ hZ3 | exact HS.out _ hZ2 | exact HS.out _ hZ | exact HS.out _ (hZ.alloc hZ.size _))
      clear hK K
      try simp only [Act.put, List.getElem_toArray, List.getElem_cons_zero, List.getElem_cons_succ, List.setIfInBounds_toArray, List.set_cons_zero, List.set_cons_succ]
      refine wpAnyH_ready (rs := [6]) (by kernel_rfl) (by simp) ?_
      refine AllReadyH.cons rfl (fun K hK => ?_) ?_
      ·
        go_simp
        go_at_call 14
        refine (t17_c ⟨#[117]⟩ true _).mono ?_
        rintro e z6 ⟨rfl, hC⟩
        replace hZ := hZ.trans (hC.mono hZ.size)
        clear hC
        (try dsimp only)
        refine hK.out _ _ ?_ (fun hHeld => ?_)
        focus ((try dsimp only); first | exact HS.out _ hZ3 | exact HS.out _ hZ2 | exact HS.out _ hZ | exact HS.out _ (hZ.alloc hZ.size _))
        clear hK K
        try simp only [Act.put, List.getElem_toArray, List.getElem_cons_zero, List.getElem_cons_succ, List.setIfInBounds_toArray, List.set_cons_zero, List.set_cons_succ]
        refine wpAnyH_ready (rs := [7]) (by kernel_rfl) (by simp) ?_
        refine AllReadyH.cons rfl (fun K hK => ?_) ?_
        ·
          go_simp
          refine hK.out _ _ ?_ (fun hHeld => ?_)
          focus ((try dsimp only); first | exact HS.out _ hZ3 | exact HS.out _ hZ2 | exact HS.out _ hZ | exact HS.out _ (hZ.alloc hZ.size _))
          clear hK K
          try simp only [Act.put, List.getElem_toArray, List.getElem_cons_zero, List.getElem_cons_succ, List.setIfInBounds_toArray, List.set_cons_zero, List.set_cons_succ]
          have bT := Blk.new z6 39 #[.string ⟨#[116]⟩, .bool true, .string ⟨#[]⟩, .int .i64 (-1), .string ⟨#[]⟩, .string ⟨#[112, 50, 45, 49]⟩, .bool false, .string ⟨#[]⟩, .int .i64 (-1), .string ⟨#[]⟩, .string ⟨#[117]⟩, .bool true, .string ⟨#[]⟩, .int .i64 (-1), .string ⟨#[]⟩]
          have hZ2 := hZ.alloc hZ.size (.cells #[.string ⟨#[116]⟩, .bool true, .string ⟨#[]⟩, .int .i64 (-1), .string ⟨#[]⟩, .string ⟨#[112, 50, 45, 49]⟩, .bool false, .string ⟨#[]⟩, .int .i64 (-1), .string ⟨#[]⟩, .string ⟨#[117]⟩, .bool true, .string ⟨#[]⟩, .int .i64 (-1), .string ⟨#[]⟩] 39)
          refine wpAnyH_take (i := 8) (v := ?_) rfl (by kernel_rfl) (by kernel_rfl) (by kernel_rfl) (fun _ _ _ h => h) (Or.inl ⟨by rfl, ?_⟩) (by assumption) ?_
          rotate_left
          focus (intro _ hSw; (try dsimp only at hSw); go_simp; try (with_reducible rfl))
          try simp only [Act.put, List.getElem_toArray, List.getElem_cons_zero, List.getElem_cons_succ, List.setIfInBounds_toArray, List.set_cons_zero, List.set_cons_succ]
          refine wpAnyH_ready (rs := [9]) (by kernel_rfl) (by simp) ?_
          refine AllReadyH.cons rfl (fun K hK => ?_) ?_
          ·
            go_simp
            go_at_call 9
            refine (HSM.out _ _ _ ⟨_, _, rfl, HKZ.out.1.below hZ2 (Nat.le_refl _), RRow.below HKZ.out.2 hZ2 (Nat.le_refl _)⟩ ⟨_, _, rfl, rtups_of _ awD.tups bT (Nat.le_refl _) (by decide) rfl, RRow.nil _⟩).mono ?_
            rintro e z9 ⟨rfl, hC⟩
            have hZ3 := hZ2.trans (hC.mono hZ2.size)
            clear hC
            (try dsimp only)
            refine hK.out _ _ ?_ (fun hHeld => ?_)
            focus ((try dsimp only); first | exact HS.out _ hZ3 | exact HS.out _ hZ2 | exact HS.out _ hZ | exact HS.out _ (hZ.alloc hZ.size _))
            clear hK K
            try simp only [Act.put, List.getElem_toArray, List.getElem_cons_zero, List.getElem_cons_succ, List.setIfInBounds_toArray, List.set_cons_zero, List.set_cons_succ]
            refine wpAnyH_take (i := 10) (v := ?_) rfl (by kernel_rfl) (by kernel_rfl) (by kernel_rfl) (fun _ _ _ h => h) (Or.inl ⟨by rfl, ?_⟩) (by assumption) ?_
            rotate_left
            focus (intro _ hSw; (try dsimp only at hSw); go_simp; try (with_reducible rfl))
            try simp only [Act.put, List.getElem_toArray, List.getElem_cons_zero, List.getElem_cons_succ, List.setIfInBounds_toArray, List.set_cons_zero, List.set_cons_succ]
            refine wpAnyH_take (i := 11) (v := ?_) rfl (by kernel_rfl) (by kernel_rfl) (by kernel_rfl) (fun _ _ _ h => h) (Or.inl ⟨by rfl, ?_⟩) (by assumption) ?_
            rotate_left
            focus (intro _ hSw; (try dsimp only at hSw); go_simp; try (with_reducible rfl))
            try simp only [Act.put, List.getElem_toArray, List.getElem_cons_zero, List.getElem_cons_succ, List.setIfInBounds_toArray, List.set_cons_zero, List.set_cons_succ]
            refine wpAnyH_done (by kernel_rfl) ?_ _
            go_wp2
            go_ret
            refine ⟨?_, HBZ.out.trans (hZ3.mono HBZ.out.size)⟩
            rfl
          exact AllReadyH.nil
        exact AllReadyH.nil
      exact AllReadyH.nil
    exact AllReadyH.nil
  exact AllReadyH.nil

end Go.Proofs.YtbljmjbialinkaaDoor
