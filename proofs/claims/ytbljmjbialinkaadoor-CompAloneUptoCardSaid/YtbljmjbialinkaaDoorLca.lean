/-
  The statement CompAlone: its walk.
-/
import Derived.Test.YtbljmjbialinkaaDoorLcx
namespace Go.Proofs.YtbljmjbialinkaaDoor
set_option linter.unusedSimpArgs false
set_option linter.unusedVariables false
open Go.RowKit Go.Sort Go.Maps

theorem dedGo_len {α : Type} [DecidableEq α] : ∀ (L acc : List α), (dedGo acc L).length ≤ acc.length + L.length
  | [], acc => by rw [dedGo]; omega
  | t :: r, acc => by
    rw [dedGo]
    split
    · have := dedGo_len r acc; rw [List.length_cons]; omega
    · have := dedGo_len r (acc ++ [t]); rw [List.length_append] at this; rw [List.length_cons]; simp at this; omega
theorem str_eq (p q : List UInt8) : ((bs p).toList == (bs q).toList) = (p == q) := by rw [toList_us, us_bs, toList_us, us_bs]

set_option maxRecDepth 100000 in
set_option maxHeartbeats 25600000 in
theorem compAlone_walk (a : ByteArray) (ha : a.size ≤ 1048576) (cs : Array Value) (q : Pb) (hb : PubSz 1048576 q) (w : World) (hm : Ml w) (hv : PubCs w cs.toList q) :
    Calls Tryd.prog 3 #[.string a, .agg cs] w fun e w' => e = .returned (.bool true) ∧ Below w.heap.size w w' := by
  have HM := Lib.hid hm
  have HAW := Lib.hid (fun wx hx => awake17_c wx hx)
  obtain ⟨S1, S2, n3, u1, u2, hcs, k1, k2⟩ := hv
  have HT := Lib.hid k1
  have HN := Lib.hid k2
  obtain ⟨ao, ac, rfl, hac⟩ := k1.cap
  obtain ⟨bo, bc, rfl, hbc, hnf⟩ := k2.formT
  have HNF := Lib.hid hnf
  obtain ⟨E, hE⟩ : ∃ x, x = bs q.doc.ent := ⟨_, rfl⟩
  have hsv : sv q.doc.ent = .string E := by rw [hE]; rfl
  obtain rfl : cs = #[.int .i64 q.num, .string S1, .string S2, .int .i64 n3, .string E, .slice ao q.doc.tups.length ac, .slice bo q.doc.notes.length bc] := by
    cases cs with
    | mk l => rw [hsv] at hcs; simpa using hcs
  have HSVE := Lib.hid hsv
  have hB1 : Below w.heap.size w ((w.alloc (.cells #[.int .i64 q.num, .string S1, .string S2, .int .i64 n3, .string E, .slice ao q.doc.tups.length ac, .slice bo q.doc.notes.length bc] 27)).alloc (.cells #[.int .i64 q.num, .string S1, .string S2, .int .i64 n3, .string E, .slice ao q.doc.tups.length ac, .slice bo q.doc.notes.length bc] 27)) := ((Below.refl _ _).alloc (Nat.le_refl _) _).alloc (by rw [World.size_alloc]; omega) _
  have b0 := (Blk.new w 27 #[.int .i64 q.num, .string S1, .string S2, .int .i64 n3, .string E, .slice ao q.doc.tups.length ac, .slice bo q.doc.notes.length bc]).alloc (.cells #[.int .i64 q.num, .string S1, .string S2, .int .i64 n3, .string E, .slice ao q.doc.tups.length ac, .slice bo q.doc.notes.length bc] 27)
  have b1 := Blk.new (w.alloc (.cells #[.int .i64 q.num, .string S1, .string S2, .int .i64 n3, .string E, .slice ao q.doc.tups.length ac, .slice bo q.doc.notes.length bc] 27)) 27 #[.int .i64 q.num, .string S1, .string S2, .int .i64 n3, .string E, .slice ao q.doc.tups.length ac, .slice bo q.doc.notes.length bc]
  rw [World.size_alloc] at b1
  obtain ⟨w1, hw1⟩ : ∃ z, z = ((w.alloc (.cells #[.int .i64 q.num, .string S1, .string S2, .int .i64 n3, .string E, .slice ao q.doc.tups.length ac, .slice bo q.doc.notes.length bc] 27)).alloc (.cells #[.int .i64 q.num, .string S1, .string S2, .int .i64 n3, .string E, .slice ao q.doc.tups.length ac, .slice bo q.doc.notes.length bc] 27)) := ⟨_, rfl⟩
  rw [← hw1] at hB1 b0 b1
  have HW1 := Lib.hid hw1
  have hpub : RPubs w1 (.slice (some ⟨w.heap.size + 1, 0, none⟩) 1 1) [q] := by
    refine .inr ⟨w.heap.size + 1, 0, 1, rfl, Nat.le_refl _, by decide, b1.lt, fun j hj => ?_⟩
    obtain rfl : j = 0 := by simpa using hj
    exact ⟨boxedCell b1 0, ⟨_, boxedCell b1 1⟩, ⟨_, boxedCell b1 2⟩, ⟨_, boxedCell b1 3⟩, by show w1.cell? _ = some (sv q.doc.ent); rw [hsv]; exact boxedCell b1 4, _, _, boxedCell b1 5, boxedCell b1 6, k1.below hB1 (Nat.le_refl _), RRow.below k2 hB1 (Nat.le_refl _)⟩
  have HC := Lib.hid (fun wx hx vv hL => compose_c (us a) vv [q] (by rw [length_us]; exact ha) (fun p hp => by rw [List.mem_singleton.1 hp]; exact hb.1) (by simp) wx hx hL)
  have hsa : sv (us a) = .string a := by unfold sv; rw [bs_us]
  rw [hsa] at HC
  have HSA := Lib.hid hsa
  have HAL := Lib.hid (fun h => compose_alone candP okDoc (us a) q h (fun hd => okDoc_facts q.doc hd))
  obtain ⟨D, hD⟩ : ∃ A, A = composeS candP okDoc (us a) [q] := ⟨_, rfl⟩
  rw [← hD] at HC HAL
  have hm1 := HM.out.below hB1
  have HPUB := Lib.hid hpub
  have HB1 := Lib.hid hB1
  have HB0 := Lib.hid b0
  have hnl : q.doc.notes.length ≤ 1048576 := hb.2.2
  clear hm k1 k2 hnf hE hsv hw1 hB1 b0 b1 hpub hsa hD hcs
  go_enter Tryd.func3, Tryd.ntmps3
  go_wp2_with (first | (go_at_call 7; (try rw [← HW1.out]); refine (HC.out _ hm1 _ HPUB.out).mono ?_; rintro e w2 ⟨vd, rfl, hd, hC2⟩; obtain ⟨u1, u2, rfl, k1, k2⟩ := hd; have HK1 := Lib.hid (And.intro k1 k2); obtain ⟨co, cc, rfl, hcc⟩ := k1.cap; obtain ⟨eo, ec, rfl, hec⟩ := k2.cap; clear k1 k2) | (with_reducible refine holdStore 25 rfl ?_))
  unfold Hold
  refine wpList_storeNew (vs := #[sv D.1.ent, .slice co D.1.tups.length cc, .slice eo D.1.notes.length ec]) rfl rfl rfl rfl (by kernel_rfl) (by rfl) (by rfl) ?_
  have hN := (Below.refl w2.heap.size w2).alloc (Nat.le_refl _) (.cells #[sv D.1.ent, .slice co D.1.tups.length cc, .slice eo D.1.notes.length ec] 25)
  have bD := Blk.new w2 25 #[sv D.1.ent, .slice co D.1.tups.length cc, .slice eo D.1.notes.length ec]
  have hN3 := hC2.trans (hN.mono hC2.size)
  have hB3 := HB1.out.trans (hN3.mono HB1.out.size)
  have b03 := Blk.call HB0.out hN3
  have j1 := HK1.out.1.below hN (Nat.le_refl _)
  have j2 := RRow.below HK1.out.2 hN (Nat.le_refl _)
  obtain ⟨gD, hgD⟩ : ∃ g, g = w2.heap.size := ⟨_, rfl⟩
  obtain ⟨w3, hw3⟩ : ∃ z, z = w2.alloc (.cells #[sv D.1.ent, .slice co D.1.tups.length cc, .slice eo D.1.notes.length ec] 25) := ⟨_, rfl⟩
  rw [← hw3] at hN bD hB3 j1 j2 hN3 b03
  rw [← hw3]
  rw [← hgD] at bD
  simp only [← hgD]
  have HJ := Lib.hid (And.intro j1 j2)
  have HB3 := Lib.hid hB3
  have HBD := Lib.hid bD
  have HB03 := Lib.hid b03
  have hm3 := HM.out.below hB3
  have p5 : w3.cell? ⟨w.heap.size, 5, none⟩ = some (.slice ao q.doc.tups.length ac) := boxedCell b03 5
  clear hw3 hgD hN bD hB3 j1 j2 hN3 b03 hC2 hm1 HK1
  by_cases he : D.2 = 0
  case neg =>
    have t0 : (D.2 != 0) = true := by simpa using he
    clear he
    go_wp2_with (go_at_call 8; refine (HAW.out _ hm3).mono ?_; rintro e w6 ⟨rfl, hC6⟩)
    go_ret
    exact ⟨rfl, HB3.out.trans (hC6.mono HB3.out.size)⟩
  case pos =>
    have HDE := Lib.hid (HAL.out he)
    have t0 : (D.2 != 0) = false := by rw [he]; rfl
    clear he
    go_wp2_with (with_reducible refine holdStore 25 rfl ?_)
    unfold Hold
    refine wpList_storeNew (vs := #[.string a, .slice ao q.doc.tups.length ac, .slice none 0 0]) rfl rfl rfl rfl (by kernel_rfl) (by rfl) (by rfl) ?_
    have bW := Blk.new w3 25 #[.string a, .slice ao q.doc.tups.length ac, .slice none 0 0]
    have hN := (Below.refl w3.heap.size w3).alloc (Nat.le_refl _) (.cells #[.string a, .slice ao q.doc.tups.length ac, .slice none 0 0] 25)
    obtain ⟨gW, hgW⟩ : ∃ g, g = w3.heap.size := ⟨_, rfl⟩
    obtain ⟨w4, hw4⟩ : ∃ z, z = w3.alloc (.cells #[.string a, .slice ao q.doc.tups.length ac, .slice none 0 0] 25) := ⟨_, rfl⟩
    rw [← hw4] at hN bW
    rw [← hw4]
    rw [← hgW] at bW
    simp only [← hgW]
    have HN4 := Lib.hid hN
    have HBW := Lib.hid bW
    have HGW := Lib.hid hgW
    have HST := Lib.hid (World.ownsRow_nil w4 (gW + 1) 9 1)
    have hgg : w.heap.size < gW := by rw [hgW]; exact HB03.out.lt
    have hgd : gD < gW := by rw [hgW]; exact HBD.out.lt
    clear hw4 hgW hN bW p5
    go_wp2
    go_loopw [8] (fun x wr => ∃ (i : Nat) (N : List (List UInt8)) (wn : Value), i ≤ q.doc.notes.length ∧ x = .int .i64 i ∧ Hid (N = dedGo [] (q.doc.notes.take i)) ∧ Hid (Below w3.heap.size w3 wr) ∧ Hid (Blk wr gW 25 #[.string a, .slice ao q.doc.tups.length ac, wn]) ∧ Hid (Strs wr (gW + 1) 9 wn N)) (fun x _ => q.doc.notes.length - (intOf x).toNat)
    case atStart => exact ⟨0, [], _, Nat.zero_le _, rfl, Lib.hid rfl, HN4, HBW, HST⟩
    case round =>
      obtain ⟨i, N, wn, hi, rfl, HNE, HBx, HBWx, HSx⟩ := hrel
      have c6 : wr.cell? ⟨w.heap.size, 6, none⟩ = some (.slice bo q.doc.notes.length bc) := boxedCell (Blk.call HB03.out HBx.out) 6
      have hBw := HB3.out.trans (HBx.out.mono HB3.out.size)
      have hnl2 : N.length ≤ i := by rw [HNE.out]; have := dedGo_len (q.doc.notes.take i) []; rw [List.length_take] at this; simp at this; omega
      obtain ⟨no, nc, rfl, hnm, hnf⟩ := RStrs.formT (Strs.read HSx.out)
      have HNFx := Lib.hid hnf
      have w2' : wr.cell? ⟨gW, 2, none⟩ = some (.slice no N.length nc) := boxedCell HBWx.out 2
      clear hnf
      by_cases hlt : i < q.doc.notes.length
      · obtain ⟨b1, o1, rfl, hb1, hcc1⟩ := HNF.out (by omega)
        obtain ⟨s, hs⟩ : ∃ s, s = q.doc.notes[i] := ⟨_, rfl⟩
        have hc1 := hcc1 i hlt
        rw [← hs] at hc1
        have HSN := Lib.hid (show (s ∈ N → dedGo [] (q.doc.notes.take (i + 1)) = N) ∧ (¬ s ∈ N → dedGo [] (q.doc.notes.take (i + 1)) = N ++ [s]) from ⟨fun h => by rw [List.take_succ_eq_append_getElem hlt, dedGo_snoc, ← HNE.out, ← hs, if_pos h], fun h => by rw [List.take_succ_eq_append_getElem hlt, dedGo_snoc, ← HNE.out, ← hs, if_neg h]⟩)
        have hKEEP := fun (wx : World) (h : Drn wr wx) => (show wx.cell? ⟨w.heap.size, 6, none⟩ = some (.slice (some ⟨b1, o1, none⟩) q.doc.notes.length bc) ∧ wx.cell? ⟨gW, 2, none⟩ = some (.slice no N.length nc) ∧ wx.cell? ⟨b1, o1 + i, none⟩ = some (sv s) ∧ Below w3.heap.size w3 wx ∧ Blk wx gW 25 #[.string a, .slice ao q.doc.tups.length ac, .slice no N.length nc] ∧ Strs wx (gW + 1) 9 (.slice no N.length nc) N ∧ Below wr.heap.size wr wx from by
          have hb := h.below (B := wr.heap.size)
          have e1 := HBx.out.trans (h.below (B := w3.heap.size))
          have e2 := Blk.call HBWx.out hb
          exact ⟨boxedCell (Blk.call HB03.out e1) 6, boxedCell e2 2, by rw [(HB3.out.trans (e1.mono HB3.out.size)).cell (p := ⟨b1, o1 + i, none⟩) hb1]; exact hc1, e1, e2, Strs.below HSx.out hb (Nat.le_refl _), hb⟩)
        have HKEEP := Lib.hid hKEEP
        have HCMP := Lib.hid (fun k (hk : k < N.length) => str_eq N[k] s)
        clear hcc1 hb1 hs hc1 hKEEP
        unfold sv at HKEEP
        obtain ⟨S, hS⟩ : ∃ x, x = bs s := ⟨_, rfl⟩
        rw [← hS] at HKEEP HCMP
        have HS := Lib.hid hS
        clear hS
        go_wp2
        clear c6 w2'
        focus
          go_loopw [9, 10] (fun x y wx => ∃ (k : Nat) (f : Bool), k ≤ N.length ∧ x = .bool f ∧ y = .int .i64 k ∧ Hid (f = decide (s ∈ N.take k)) ∧ Hid (Drn wr wx)) (fun _ y _ => N.length - (intOf y).toNat)
          case atStart => exact ⟨0, false, Nat.zero_le _, rfl, rfl, Lib.hid (by simp), Lib.hid (Drn.refl _)⟩
          case round =>
            obtain ⟨k, f, hk, rfl, rfl, HF, HD⟩ := hrel
            obtain ⟨c6, w2', y0, hBk, hWk, hSk, hbk⟩ := HKEEP.out _ HD.out
            have HBK := Lib.hid hBk
            have HWK := Lib.hid hWk
            have HSK := Lib.hid hSk
            have i0 : (0 : Int) ≤ (i : Int) := by omega
            have i1 : (i : Int) < (q.doc.notes.length : Int) := by omega
            by_cases hlk : k < N.length
            · obtain ⟨b2, o2, rfl, hb2, hcc2⟩ := HNFx.out (by omega)
              have z0 : wr.cell? ⟨b2, o2 + k, none⟩ = some (sv N[k]) := by rw [hbk.cell (p := ⟨b2, o2 + k, none⟩) hb2]; exact hcc2 k hlk
              have k0 : (0 : Int) ≤ (k : Int) := by omega
              have k1 : (k : Int) < (N.length : Int) := by omega
              have hcm := HCMP.out k hlk
              have HTK := Lib.hid (show decide (s ∈ N.take (k + 1)) = (decide (s ∈ N.take k) || (N[k] == s)) by
                rw [List.take_succ_eq_append_getElem hlk, Bool.eq_iff_iff]
                simp only [List.mem_append, List.mem_singleton, decide_eq_true_eq, Bool.or_eq_true, beq_iff_eq]
                exact or_congr Iff.rfl ⟨fun h => h.symm, fun h => h.symm⟩)
              obtain ⟨Q, hQ⟩ : ∃ Q, Q = N[k] := ⟨_, rfl⟩
              rw [← hQ] at z0 hcm HTK
              unfold sv at z0
              obtain ⟨T, hT⟩ : ∃ T, T = bs Q := ⟨_, rfl⟩
              rw [← hT] at z0 hcm
              clear hT hQ hcc2 hb2 hBk hWk hSk hbk
              cases f with
              | true =>
                have HF2 := Lib.hid (show true = decide (s ∈ N.take (k + 1)) by rw [HTK.out, ← HF.out]; rfl)
                go_wp2
                go_quiet (fail)
                go_wp2
                go_roundw
                case rel => exact ⟨k + 1, true, by omega, rfl, by go_num, HF2, Lib.hid (HD.out.step _)⟩
                case measure => simp [intOf]; omega
              | false =>
                cases hq : (Q == s) with
                | true =>
                  rw [hq] at hcm
                  have HF2 := Lib.hid (show true = decide (s ∈ N.take (k + 1)) by rw [HTK.out, hq]; simp)
                  clear hq
                  go_wp2
                  go_quiet (fail)
                  go_wp2
                  go_roundw
                  case rel => exact ⟨k + 1, true, by omega, rfl, by go_num, HF2, Lib.hid (HD.out.step _)⟩
                  case measure => simp [intOf]; omega
                | false =>
                  rw [hq] at hcm
                  have HF2 := Lib.hid (show false = decide (s ∈ N.take (k + 1)) by rw [HTK.out, ← HF.out, hq]; rfl)
                  clear hq
                  go_wp2
                  go_quiet (fail)
                  go_wp2
                  go_roundw
                  case rel => exact ⟨k + 1, false, by omega, rfl, by go_num, HF2, Lib.hid (HD.out.step _)⟩
                  case measure => simp [intOf]; omega
            · have HFE := Lib.hid (show f = decide (s ∈ N) by rw [HF.out, List.take_of_length_le (by omega)])
              clear hBk hWk hSk hbk
              cases f with
              | true =>
                have HN2 := Lib.hid (show N = dedGo [] (q.doc.notes.take (i + 1)) from (HSN.out.1 (of_decide_eq_true HFE.out.symm)).symm)
                go_wp2
                go_roundw
                case rel => exact ⟨i + 1, N, _, by omega, by go_num, HN2, HBK, HWK, HSK⟩
                case measure => simp [intOf]; omega
              | false =>
                have HN2 := Lib.hid (show N ++ [s] = dedGo [] (q.doc.notes.take (i + 1)) from (HSN.out.2 (of_decide_eq_false HFE.out.symm)).symm)
                go_upto_region 14 with fail
                refine wp_region_any (by kernel_rfl) ?_
                try (change wpAny _ _ _ _ _ _ _ (World.drew _))
                have hD : Below wr.heap.size wr wr.drew := Drn.below ⟨1, rfl⟩
                clear c6 w2' y0
                obtain ⟨c6, g2, y0, hBk, hWk, hSk, hbk⟩ := HKEEP.out _ (HD.out.step 1)
                obtain ⟨wd, hwd⟩ : ∃ wd, wd = wr.drew := ⟨_, rfl⟩
                rw [show wr.drewN 1 = wr.drew from rfl, ← hwd] at c6 g2 y0 hBk hWk hSk
                rw [← hwd]
                have hA7 : Below wd.heap.size wd (wd.alloc (.cells #[.string S] 9)) := (Below.refl _ _).alloc (Nat.le_refl _) _
                have ga := Blk.call hWk hA7
                have g2a : (wd.alloc (.cells #[.string S] 9)).cell? ⟨gW, 2, none⟩ = some (.slice no N.length nc) := boxedCell ga 2
                have MD := Lib.hid hSk
                have HSZ := Lib.hid (show gW + 1 ≤ wd.heap.size from hWk.lt)
                have HGA := Lib.hid ga
                have HBA := Lib.hid (hBk.trans (hA7.mono hBk.size))
                have HB8 := Lib.hid (fun (w8 : World) (h3 : World.grownBy (wd.alloc (.cells #[.string S] 9)) w8 (Value.slice no N.length nc).ownBlock) => (show Blk w8 gW 25 #[.string a, .slice ao q.doc.tups.length ac, .slice no N.length nc] from (h3.block gW HGA.out.lt (fun e => by have := (World.ownsRow.lt MD.out gW e.symm).1; omega)).trans HGA.out))
                have HFIN := Lib.hid (fun (v' : Value) (w8 : World) (h2 : w8.ownsRow (gW + 1) 9 1 v' (N.length + 1) (N.map sv ++ (#[.string S] : Array Value).toList)) (h3 : World.grownBy (wd.alloc (.cells #[.string S] 9)) w8 (Value.slice no N.length nc).ownBlock) => (show Below w3.heap.size w3 (w8.setCell ⟨gW, 2, none⟩ v') ∧ Blk (w8.setCell ⟨gW, 2, none⟩ v') gW 25 #[.string a, .slice ao q.doc.tups.length ac, v'] ∧ Strs (w8.setCell ⟨gW, 2, none⟩ v') (gW + 1) 9 v' (N ++ [s]) from by
                  refine ⟨(HBA.out.grown h3 HBA.out.size (fun k hk => by have := (World.ownsRow.lt MD.out k hk).1; have := HGW.out; omega)).setCell (p := ⟨gW, 2, none⟩) (Nat.le_of_eq HGW.out.symm) _, Blk.set_ (HB8.out w8 h3) 2 v', ?_⟩
                  refine World.ownsRow.kept ?_ (grown_setCell w8 ⟨gW, 2, none⟩ v') (.inr (fun e => absurd (World.ownsRow.lt h2 _ e).1 (Nat.not_succ_le_self gW)))
                  show w8.ownsRow (gW + 1) 9 1 v' (N ++ [s]).length ((N ++ [s]).map sv)
                  rw [List.length_append, List.map_append]
                  have e2 : [s].map sv = (#[.string S] : Array Value).toList := by rw [HS.out]; rfl
                  rw [e2]
                  exact h2))
                clear hwd hBk hWk hSk hbk hA7 ga hD
                first | (refine wpAny_take (i := 0) (v := undef) rfl (by kernel_rfl) (by kernel_rfl) (by kernel_rfl) (fun _ _ _ h => h) (Or.inr ⟨by rfl, rfl⟩) ?_) | (refine wpAny_take (i := 0) (v := ?_) rfl (by kernel_rfl) (by kernel_rfl) (by kernel_rfl) (fun _ _ _ h => h) ?_ ?_; rotate_left; focus (refine Or.inl ⟨by rfl, ?_⟩; intro _; go_simp; first | done | with_reducible rfl | (rw [if_neg (by omega)]; done) | (rw [if_neg (by omega)]; with_reducible rfl)))
                try go_simp
                first | (refine wpAny_take (i := 2) (v := undef) rfl (by kernel_rfl) (by kernel_rfl) (by kernel_rfl) (fun _ _ _ h => h) (Or.inr ⟨by rfl, rfl⟩) ?_) | (refine wpAny_take (i := 2) (v := ?_) rfl (by kernel_rfl) (by kernel_rfl) (by kernel_rfl) (fun _ _ _ h => h) ?_ ?_; rotate_left; focus (refine Or.inl ⟨by rfl, ?_⟩; intro _; go_simp; first | done | with_reducible rfl | (rw [if_neg (by omega)]; done) | (rw [if_neg (by omega)]; with_reducible rfl)))
                try go_simp
                first | (refine wpAny_take (i := 3) (v := undef) rfl (by kernel_rfl) (by kernel_rfl) (by kernel_rfl) (fun _ _ _ h => h) (Or.inr ⟨by rfl, rfl⟩) ?_) | (refine wpAny_take (i := 3) (v := ?_) rfl (by kernel_rfl) (by kernel_rfl) (by kernel_rfl) (fun _ _ _ h => h) ?_ ?_; rotate_left; focus (refine Or.inl ⟨by rfl, ?_⟩; intro _; go_simp; first | done | with_reducible rfl | (rw [if_neg (by omega)]; done) | (rw [if_neg (by omega)]; with_reducible rfl)))
                try go_simp
                first | (refine wpAny_take (i := 5) (v := undef) rfl (by kernel_rfl) (by kernel_rfl) (by kernel_rfl) (fun _ _ _ h => h) (Or.inr ⟨by rfl, rfl⟩) ?_) | (refine wpAny_take (i := 5) (v := ?_) rfl (by kernel_rfl) (by kernel_rfl) (by kernel_rfl) (fun _ _ _ h => h) ?_ ?_; rotate_left; focus (refine Or.inl ⟨by rfl, ?_⟩; intro _; go_simp; first | done | with_reducible rfl | (rw [if_neg (by omega)]; done) | (rw [if_neg (by omega)]; with_reducible rfl)))
                try go_simp
                refine wpAny_ready (rs := [1, 4]) (by kernel_rfl) (by simp) ?_
                refine AllReady.cons rfl (fun K hK => ?_) ?_
                ·
                  go_simp
                  refine hK _ _ ?_; clear hK K
                  refine wpAny_ready (rs := [4]) (by kernel_rfl) (by simp) ?_
                  refine AllReady.cons rfl (fun K hK => ?_) ?_
                  ·
                    go_simp
                    refine hK _ _ ?_; clear hK K
                    first | (refine wpAny_take (i := 6) (v := undef) rfl (by kernel_rfl) (by kernel_rfl) (by kernel_rfl) (fun _ _ _ h => h) (Or.inr ⟨by rfl, rfl⟩) ?_) | (refine wpAny_take (i := 6) (v := ?_) rfl (by kernel_rfl) (by kernel_rfl) (by kernel_rfl) (fun _ _ _ h => h) ?_ ?_; rotate_left; focus (refine Or.inl ⟨by rfl, ?_⟩; intro _; go_simp; first | done | with_reducible rfl | (rw [if_neg (by omega)]; done) | (rw [if_neg (by omega)]; with_reducible rfl)))
                    try go_simp
                    refine wpAny_ready (rs := [7]) (by kernel_rfl) (by simp) ?_
                    refine AllReady.cons rfl (fun K hK => ?_) ?_
                    ·
                      go_simp
                      refine hK _ _ ?_; clear hK K
                      refine wpAny_ready (rs := [8]) (by kernel_rfl) (by simp) ?_
                      refine AllReady.cons rfl (fun K hK => ?_) ?_
                      ·
                        go_simp
                        refine hK _ _ ?_; clear hK K
                        refine wpAny_ready (rs := [9]) (by kernel_rfl) (by simp) ?_
                        refine AllReady.cons rfl (fun K hK => ?_) ?_
                        ·
                          refine op_appM (v := .slice no N.length nc) (n := N.length) (m := 1) (news := #[.string S]) rfl Tryd.underlying23 infoS0 rfl (by decide) rfl rfl MD.out (by decide) rfl (by intro u hu; simp at hu; rw [hu]; rfl) (by decide) (by omega) HSZ.out (fun v' w8 h2 h3 h4 => ?_)
                          try go_simp
                          refine hK _ _ ?_; clear hK K
                          obtain ⟨a8, k8, rfl⟩ := row_formM h2
                          have b8 : Blk w8 gW 25 _ := HB8.out w8 h3
                          have f8 := boxedFree b8 2
                          have c8 := boxedCell b8 2
                          first | (refine wpAny_take (i := 10) (v := undef) rfl (by kernel_rfl) (by kernel_rfl) (by kernel_rfl) (fun _ _ _ h => h) (Or.inr ⟨by rfl, rfl⟩) ?_) | (refine wpAny_take (i := 10) (v := ?_) rfl (by kernel_rfl) (by kernel_rfl) (by kernel_rfl) (fun _ _ _ h => h) ?_ ?_; rotate_left; focus (refine Or.inl ⟨by rfl, ?_⟩; intro _; go_simp; first | done | with_reducible rfl | (rw [if_neg (by omega)]; done) | (rw [if_neg (by omega)]; with_reducible rfl)))
                          try go_simp
                          refine wpAny_ready (rs := [11]) (by kernel_rfl) (by simp) ?_
                          refine AllReady.cons rfl (fun K hK => ?_) ?_
                          ·
                            go_simp
                            refine hK _ _ ?_; clear hK K
                            refine wpAny_done (by kernel_rfl) ?_ _
                            obtain ⟨g1, g4, g5⟩ := HFIN.out _ w8 h2 h3
                            go_wp2
                            go_roundw
                            case rel => exact ⟨i + 1, N ++ [s], _, by omega, by go_num, HN2, Lib.hid g1, Lib.hid g4, Lib.hid g5⟩
                            case measure => simp [intOf]; omega
                          exact AllReady.nil
                        exact AllReady.nil
                      exact AllReady.nil
                    exact AllReady.nil
                  exact AllReady.nil
                refine AllReady.cons rfl (fun K hK => ?_) ?_
                ·
                  go_simp
                  refine hK _ _ ?_; clear hK K
                  first | (refine wpAny_take (i := 6) (v := undef) rfl (by kernel_rfl) (by kernel_rfl) (by kernel_rfl) (fun _ _ _ h => h) (Or.inr ⟨by rfl, rfl⟩) ?_) | (refine wpAny_take (i := 6) (v := ?_) rfl (by kernel_rfl) (by kernel_rfl) (by kernel_rfl) (fun _ _ _ h => h) ?_ ?_; rotate_left; focus (refine Or.inl ⟨by rfl, ?_⟩; intro _; go_simp; first | done | with_reducible rfl | (rw [if_neg (by omega)]; done) | (rw [if_neg (by omega)]; with_reducible rfl)))
                  try go_simp
                  refine wpAny_ready (rs := [1, 7]) (by kernel_rfl) (by simp) ?_
                  refine AllReady.cons rfl (fun K hK => ?_) ?_
                  ·
                    go_simp
                    refine hK _ _ ?_; clear hK K
                    refine wpAny_ready (rs := [7]) (by kernel_rfl) (by simp) ?_
                    refine AllReady.cons rfl (fun K hK => ?_) ?_
                    ·
                      go_simp
                      refine hK _ _ ?_; clear hK K
                      refine wpAny_ready (rs := [8]) (by kernel_rfl) (by simp) ?_
                      refine AllReady.cons rfl (fun K hK => ?_) ?_
                      ·
                        go_simp
                        refine hK _ _ ?_; clear hK K
                        refine wpAny_ready (rs := [9]) (by kernel_rfl) (by simp) ?_
                        refine AllReady.cons rfl (fun K hK => ?_) ?_
                        ·
                          refine op_appM (v := .slice no N.length nc) (n := N.length) (m := 1) (news := #[.string S]) rfl Tryd.underlying23 infoS0 rfl (by decide) rfl rfl MD.out (by decide) rfl (by intro u hu; simp at hu; rw [hu]; rfl) (by decide) (by omega) HSZ.out (fun v' w8 h2 h3 h4 => ?_)
                          try go_simp
                          refine hK _ _ ?_; clear hK K
                          obtain ⟨a8, k8, rfl⟩ := row_formM h2
                          have b8 : Blk w8 gW 25 _ := HB8.out w8 h3
                          have f8 := boxedFree b8 2
                          have c8 := boxedCell b8 2
                          first | (refine wpAny_take (i := 10) (v := undef) rfl (by kernel_rfl) (by kernel_rfl) (by kernel_rfl) (fun _ _ _ h => h) (Or.inr ⟨by rfl, rfl⟩) ?_) | (refine wpAny_take (i := 10) (v := ?_) rfl (by kernel_rfl) (by kernel_rfl) (by kernel_rfl) (fun _ _ _ h => h) ?_ ?_; rotate_left; focus (refine Or.inl ⟨by rfl, ?_⟩; intro _; go_simp; first | done | with_reducible rfl | (rw [if_neg (by omega)]; done) | (rw [if_neg (by omega)]; with_reducible rfl)))
                          try go_simp
                          refine wpAny_ready (rs := [11]) (by kernel_rfl) (by simp) ?_
                          refine AllReady.cons rfl (fun K hK => ?_) ?_
                          ·
                            go_simp
                            refine hK _ _ ?_; clear hK K
                            refine wpAny_done (by kernel_rfl) ?_ _
                            obtain ⟨g1, g4, g5⟩ := HFIN.out _ w8 h2 h3
                            go_wp2
                            go_roundw
                            case rel => exact ⟨i + 1, N ++ [s], _, by omega, by go_num, HN2, Lib.hid g1, Lib.hid g4, Lib.hid g5⟩
                            case measure => simp [intOf]; omega
                          exact AllReady.nil
                        exact AllReady.nil
                      exact AllReady.nil
                    exact AllReady.nil
                  refine AllReady.cons rfl (fun K hK => ?_) ?_
                  ·
                    go_simp
                    refine hK _ _ ?_; clear hK K
                    refine wpAny_ready (rs := [1, 8]) (by kernel_rfl) (by simp) ?_
                    refine AllReady.cons rfl (fun K hK => ?_) ?_
                    ·
                      go_simp
                      refine hK _ _ ?_; clear hK K
                      refine wpAny_ready (rs := [8]) (by kernel_rfl) (by simp) ?_
                      refine AllReady.cons rfl (fun K hK => ?_) ?_
                      ·
                        go_simp
                        refine hK _ _ ?_; clear hK K
                        refine wpAny_ready (rs := [9]) (by kernel_rfl) (by simp) ?_
                        refine AllReady.cons rfl (fun K hK => ?_) ?_
                        ·
                          refine op_appM (v := .slice no N.length nc) (n := N.length) (m := 1) (news := #[.string S]) rfl Tryd.underlying23 infoS0 rfl (by decide) rfl rfl MD.out (by decide) rfl (by intro u hu; simp at hu; rw [hu]; rfl) (by decide) (by omega) HSZ.out (fun v' w8 h2 h3 h4 => ?_)
                          try go_simp
                          refine hK _ _ ?_; clear hK K
                          obtain ⟨a8, k8, rfl⟩ := row_formM h2
                          have b8 : Blk w8 gW 25 _ := HB8.out w8 h3
                          have f8 := boxedFree b8 2
                          have c8 := boxedCell b8 2
                          first | (refine wpAny_take (i := 10) (v := undef) rfl (by kernel_rfl) (by kernel_rfl) (by kernel_rfl) (fun _ _ _ h => h) (Or.inr ⟨by rfl, rfl⟩) ?_) | (refine wpAny_take (i := 10) (v := ?_) rfl (by kernel_rfl) (by kernel_rfl) (by kernel_rfl) (fun _ _ _ h => h) ?_ ?_; rotate_left; focus (refine Or.inl ⟨by rfl, ?_⟩; intro _; go_simp; first | done | with_reducible rfl | (rw [if_neg (by omega)]; done) | (rw [if_neg (by omega)]; with_reducible rfl)))
                          try go_simp
                          refine wpAny_ready (rs := [11]) (by kernel_rfl) (by simp) ?_
                          refine AllReady.cons rfl (fun K hK => ?_) ?_
                          ·
                            go_simp
                            refine hK _ _ ?_; clear hK K
                            refine wpAny_done (by kernel_rfl) ?_ _
                            obtain ⟨g1, g4, g5⟩ := HFIN.out _ w8 h2 h3
                            go_wp2
                            go_roundw
                            case rel => exact ⟨i + 1, N ++ [s], _, by omega, by go_num, HN2, Lib.hid g1, Lib.hid g4, Lib.hid g5⟩
                            case measure => simp [intOf]; omega
                          exact AllReady.nil
                        exact AllReady.nil
                      exact AllReady.nil
                    refine AllReady.cons rfl (fun K hK => ?_) ?_
                    ·
                      go_simp
                      refine hK _ _ ?_; clear hK K
                      refine wpAny_ready (rs := [1]) (by kernel_rfl) (by simp) ?_
                      refine AllReady.cons rfl (fun K hK => ?_) ?_
                      ·
                        go_simp
                        refine hK _ _ ?_; clear hK K
                        refine wpAny_ready (rs := [9]) (by kernel_rfl) (by simp) ?_
                        refine AllReady.cons rfl (fun K hK => ?_) ?_
                        ·
                          refine op_appM (v := .slice no N.length nc) (n := N.length) (m := 1) (news := #[.string S]) rfl Tryd.underlying23 infoS0 rfl (by decide) rfl rfl MD.out (by decide) rfl (by intro u hu; simp at hu; rw [hu]; rfl) (by decide) (by omega) HSZ.out (fun v' w8 h2 h3 h4 => ?_)
                          try go_simp
                          refine hK _ _ ?_; clear hK K
                          obtain ⟨a8, k8, rfl⟩ := row_formM h2
                          have b8 : Blk w8 gW 25 _ := HB8.out w8 h3
                          have f8 := boxedFree b8 2
                          have c8 := boxedCell b8 2
                          first | (refine wpAny_take (i := 10) (v := undef) rfl (by kernel_rfl) (by kernel_rfl) (by kernel_rfl) (fun _ _ _ h => h) (Or.inr ⟨by rfl, rfl⟩) ?_) | (refine wpAny_take (i := 10) (v := ?_) rfl (by kernel_rfl) (by kernel_rfl) (by kernel_rfl) (fun _ _ _ h => h) ?_ ?_; rotate_left; focus (refine Or.inl ⟨by rfl, ?_⟩; intro _; go_simp; first | done | with_reducible rfl | (rw [if_neg (by omega)]; done) | (rw [if_neg (by omega)]; with_reducible rfl)))
                          try go_simp
                          refine wpAny_ready (rs := [11]) (by kernel_rfl) (by simp) ?_
                          refine AllReady.cons rfl (fun K hK => ?_) ?_
                          ·
                            go_simp
                            refine hK _ _ ?_; clear hK K
                            refine wpAny_done (by kernel_rfl) ?_ _
                            obtain ⟨g1, g4, g5⟩ := HFIN.out _ w8 h2 h3
                            go_wp2
                            go_roundw
                            case rel => exact ⟨i + 1, N ++ [s], _, by omega, by go_num, HN2, Lib.hid g1, Lib.hid g4, Lib.hid g5⟩
                            case measure => simp [intOf]; omega
                          exact AllReady.nil
                        exact AllReady.nil
                      exact AllReady.nil
                    exact AllReady.nil
                  exact AllReady.nil
                exact AllReady.nil
      · have hNN : N = dedGo [] q.doc.notes := by rw [HNE.out, List.take_of_length_le (by omega)]
        have hsd := fun wx va vb hx hy => sameDoc_c va vb D.1 ⟨us a, q.doc.tups, N⟩ wx hx hy
        rw [sameDoc_of (by rw [HDE.out, hNN])] at hsd
        have HSD := Lib.hid hsd
        obtain ⟨d0, d1, d2⟩ := blk_f3T (Blk.call HBD.out HBx.out)
        obtain ⟨r0, r1, r2⟩ := blk_f3T HBWx.out
        have HD1 := Lib.hid (show RDoc wr (.agg #[sv D.1.ent, .slice co D.1.tups.length cc, .slice eo D.1.notes.length ec]) D.1 from ⟨_, _, rfl, HJ.out.1.below HBx.out (Nat.le_refl _), RRow.below HJ.out.2 HBx.out (Nat.le_refl _)⟩)
        have HD2 := Lib.hid (show RDoc wr (.agg #[.string a, .slice ao q.doc.tups.length ac, .slice no N.length nc]) ⟨us a, q.doc.tups, N⟩ from ⟨_, _, by rw [HSA.out], HT.out.below hBw (Nat.le_refl _), Strs.read HSx.out⟩)
        have hmr := HM.out.below hBw
        clear hNN hsd w2'
        go_wp2_with (first | (go_at_call 9; refine (HSD.out _ _ _ HD1.out HD2.out).mono ?_; rintro e w7 ⟨rfl, hC7⟩; have hm7 := hmr.below hC7) | (go_at_call 8; refine (HAW.out _ hm7).mono ?_; rintro e w8 ⟨rfl, hC8⟩))
        go_ret
        exact ⟨rfl, (hBw.trans (hC7.mono hBw.size)).trans (hC8.mono (Nat.le_trans hBw.size hC7.size))⟩

end Go.Proofs.YtbljmjbialinkaaDoor
