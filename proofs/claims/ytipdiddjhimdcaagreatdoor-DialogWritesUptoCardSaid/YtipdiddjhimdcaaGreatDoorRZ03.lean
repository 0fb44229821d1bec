/- Contracts of Go functions, and plain laws. No condition but those told. -/
import Derived.Test.YtipdiddjhimdcaaGreatDoorRZ02
import Derived.Lib.QuietBelow
set_option linter.unusedSimpArgs false
set_option linter.unusedVariables false
set_option maxRecDepth 100000
namespace Go.Proofs.YtipdiddjhimdcaaGreatDoor
open Go.RowKit
end Go.Proofs.YtipdiddjhimdcaaGreatDoor
namespace Go.Proofs.YtipdiddjhimdcaaGreatDoor
open Go.RowKit Go.Sort
theorem schemeR_c (s : ByteArray) (w : World) :
  Calls Tryz.prog 124 #[.string s] w fun e w' => e = .returned (.bool (schemeS (us s))) ∧ w = w' := by
 by_cases h1 : us s = nSip
 ·obtain rfl : s = ⟨#[115, 105, 112]⟩ := us_inj h1
  clear h1
  go_enter Tryz.func124, Tryz.ntmps124
  go_wp2
  go_ret
  exact ⟨ret_bool (by decide +kernel), rfl⟩
 by_cases h2 : us s = nSips
 ·obtain rfl : s = ⟨#[115, 105, 112, 115]⟩ := us_inj h2
  clear h1 h2
  go_enter Tryz.func124, Tryz.ntmps124
  go_wp2
  go_ret
  exact ⟨ret_bool (by decide +kernel), rfl⟩
 by_cases h3 : us s = nPres
 ·obtain rfl : s = ⟨#[112, 114, 101, 115]⟩ := us_inj h3
  clear h1 h2 h3
  go_enter Tryz.func124, Tryz.ntmps124
  go_wp2
  go_ret
  exact ⟨ret_bool (by decide +kernel), rfl⟩
 have HE := κ (show schemeS (us s) = false by unfold schemeS; simp [h1, h2, h3])
 have n1 : ¬ s.toList = [115, 105, 112] := by rw [toList_us]; exact h1
 have n2 : ¬ s.toList = [115, 105, 112, 115] := by rw [toList_us]; exact h2
 have n3 : ¬ s.toList = [112, 114, 101, 115] := by rw [toList_us]; exact h3
 clear h1 h2 h3
 go_enter Tryz.func124, Tryz.ntmps124
 go_wp2
 go_ret
 exact ⟨ret_bool (by rw [HE.out]; simp [n1, n2, n3]), rfl⟩
theorem regrownZ {w wq : World} (h : ∃ p : Regrown, wq = grow (redrawn w p.d) p.os) : Below w.heap.size w wq := by obtain ⟨⟨d, os⟩, rfl⟩ := h; exact below_regrown w d os
theorem okU_cs (p : Prm) (N V : ByteArray) (hN : N.size = p.name.length) (hV : V.size = p.value.length) :
  (N.size = 0 ∧ okU p = false) ∨ (N.size ≠ 0 ∧ 64 < N.size ∧ okU p = false) ∨ (N.size ≠ 0 ∧ ¬ 64 < N.size ∧ 64 < V.size ∧ okU p = false) ∨
  (N.size ≠ 0 ∧ ¬ 64 < N.size ∧ ¬ 64 < V.size ∧ p.has = false ∧ V.size ≠ 0 ∧ okU p = false) ∨
  (N.size ≠ 0 ∧ ¬ 64 < N.size ∧ ¬ 64 < V.size ∧ p.has = false ∧ V.size = 0 ∧ okU p = true) ∨ (N.size ≠ 0 ∧ ¬ 64 < N.size ∧ ¬ 64 < V.size ∧ p.has = true ∧ okU p = true) := by
 rcases okU_cases p N V hN hV false with h | h | h | ⟨_, _, _, h⟩ | ⟨a, b, c, _, d⟩ | ⟨a, b, c, _, d⟩ | ⟨a, b, c, _, d⟩
 ·exact .inl h
 ·exact .inr (.inl h)
 ·exact .inr (.inr (.inl h))
 ·cases h
 ·exact .inr (.inr (.inr (.inl ⟨a, b, c, d⟩)))
 ·exact .inr (.inr (.inr (.inr (.inl ⟨a, b, c, d⟩))))
 ·exact .inr (.inr (.inr (.inr (.inr ⟨a, b, c, d⟩))))
theorem twice_at (L : List Prm) (n : List UInt8) (j k : Nat) (hj : j < k) (hk : k ≤ L.length) (h : same (L[j]'(by omega)).name n = true) : twiceU (L.take k) n = true := by
 unfold twiceU
 exact List.any_eq_true.2 ⟨L[j]'(by omega), by rw [List.mem_take_iff_getElem]; exact ⟨j, by omega, rfl⟩, h⟩
theorem twice_next (L : List Prm) (n : List UInt8) (j : Nat) (hj : j < L.length) (h : same L[j].name n = false) (ht : twiceU (L.take j) n = false) : twiceU (L.take (j + 1)) n = false := by
 unfold twiceU at ht ⊢
 rw [List.take_succ_eq_append_getElem hj, List.any_append, ht]; simp [h]
set_option maxHeartbeats 6400000 in
theorem listR_c' (v : Value) (L : List Prm) (w : World) (h1 : RPrms w v L) (hbd : ∀ p ∈ L, p.name.length ≤ 4294967280 ∧ p.value.length ≤ 4294967280) :
  Calls Tryz.prog 166 #[v] w fun e w' => e = .returned (.bool (listU L)) ∧ Below w.heap.size w w' := by
 obtain ⟨ao, cap, rfl, hm1, c1⟩ := h1.form
 have C1 := κ c1
 have HBD := κ hbd
 clear c1 h1 hbd
 unfold maxLen at hm1
 by_cases h16 : L.length ≤ 16
 case neg =>
  have HE := κ (list_long L h16)
  go_enter Tryz.func166, Tryz.ntmps166
  go_wp2
  go_ret
  exact ⟨ret_bool HE.out.symm, Below.refl _ _⟩
 ·have HLB := κ (fun k hk => list_bad L k hk)
  have HLN := κ (fun k hk => list_next L k hk)
  have HLE := κ (fun k hk => list_end L k hk h16)
  have HTA := κ (fun n j k => twice_at L n j k)
  have HTN := κ (fun n j => twice_next L n j)
  go_enter Tryz.func166, Tryz.ntmps166
  go_wp2
  go_loopw [3] (fun i wr => ∃ k : Nat, k ≤ L.length ∧ i = .int .i64 k ∧ Below w.heap.size w wr ∧ Hid (listGo [] L = listGo (L.take k) (L.drop k))) (fun i _ => L.length - (intOf i).toNat)
  case atStart => exact ⟨0, Nat.zero_le _, rfl, Below.refl _ _, κ rfl⟩
  case round =>
   obtain ⟨k, hk, rfl, hB, HP⟩ := hrel
   by_cases hlt : k < L.length
   ·obtain ⟨b, off, rfl, hb1, hc1⟩ := C1.out (by omega)
    have X0 := κ (fun j (hj : j < L.length) (wx : World) (hx : Below w.heap.size w wx) => (show wx.cell? ⟨b, off + j * 3, none⟩ = some (.string (bs L[j].name)) from by rw [hx.cell (p := ⟨b, off + j * 3, none⟩) hb1]; exact (hc1 j hj).1))
    have x0 : wr.cell? ⟨b, off + k * 3, none⟩ = some (.string (bs L[k].name)) := by rw [hB.cell (p := ⟨b, off + k * 3, none⟩) hb1]; exact (hc1 k hlt).1
    have x1 : wr.cell? ⟨b, off + k * 3 + 1, none⟩ = some (.string (bs L[k].value)) := by rw [hB.cell (p := ⟨b, off + k * 3 + 1, none⟩) hb1]; exact (hc1 k hlt).2.1
    have x2 : wr.cell? ⟨b, off + k * 3 + 2, none⟩ = some (.bool L[k].has) := by rw [hB.cell (p := ⟨b, off + k * 3 + 2, none⟩) hb1]; exact (hc1 k hlt).2.2
    have hpb := HBD.out _ (List.getElem_mem hlt)
    have hcs := okU_cs L[k] (bs L[k].name) (bs L[k].value) (size_bs _) (size_bs _)
    have hsm := fun j (hj : j < L.length) wx => sameR_c (bs L[j].name) (bs L[k].name) (by rw [size_bs]; have := HBD.out _ (List.getElem_mem hj); omega) (by rw [size_bs]; omega) wx
    simp only [us_bs] at hsm
    obtain ⟨PN, hPN⟩ : ∃ x, x = L[k].name := ⟨_, rfl⟩
    obtain ⟨N, hN⟩ : ∃ N, N = bs L[k].name := ⟨_, rfl⟩
    rw [← hN] at x0 hcs hsm
    rw [← hPN] at hsm
    have HLBk := κ (fun h => HLB.out k hlt HP.out (.inr (hPN ▸ h)))
    have HLNk := κ (fun h1 h2 => HLN.out k hlt HP.out h1 (hPN ▸ h2))
    have HSM := κ hsm
    obtain ⟨V, hV⟩ : ∃ V, V = bs L[k].value := ⟨_, rfl⟩
    rw [← hV] at x1 hcs
    have hNs : N.size ≤ 4294967280 := by rw [hN, size_bs]; omega
    have hVs : V.size ≤ 4294967280 := by rw [hV, size_bs]; omega
    have k0 : (0 : Int) ≤ (k : Int) := by omega
    have k1 : (k : Int) < (L.length : Int) := by omega
    obtain ⟨h, hh⟩ : ∃ h, h = L[k].has := ⟨_, rfl⟩
    rw [← hh] at x2 hcs
    have bm0 : Blk (wr.alloc (.cells #[.string N, .string V, .bool h] 85)) wr.heap.size 85 #[.string N, .string V, .bool h] := Blk.new _ _ _
    have hBp := hB.alloc hB.size (.cells #[.string N, .string V, .bool h] 85)
    have HBM := κ bm0
    obtain ⟨r0, r1, r2, f0, f1, f2, hz⟩ := bm0.f3
    clear hc1 hb1 hpb hsm hPN hN hV hh bm0
    rcases hcs with ⟨n1, ho⟩ | ⟨n1, n2, ho⟩ | ⟨n1, n2, n3, ho⟩ | ⟨n1, n2, n3, rfl, n4, ho⟩ | ⟨n1, n2, n3, rfl, n4, ho⟩ | ⟨n1, n2, n3, rfl, ho⟩
    obtain rfl := eq_empty n1
    clear n1
    rotate_left
    have pE := ne_empty n1
    have pF := isEmpty_f n1
    rotate_left
    have pE := ne_empty n1
    have pF := isEmpty_f n1
    rotate_left
    have pE := ne_empty n1
    have pF := isEmpty_f n1
    have qE := ne_empty n4
    have qF := isEmpty_f n4
    rotate_left
    ·have pE := ne_empty n1
     have pF := isEmpty_f n1
     obtain rfl := eq_empty n4
     clear n4
     have HO := κ ho
     clear ho
     go_wp2
     obtain ⟨w1, hw1⟩ : ∃ x, x = wr.alloc (.cells #[.string N, .string ByteArray.empty, .bool false] 85) := ⟨_, rfl⟩
     rw [← hw1] at hBp r0 r1 r2 HBM
     (try rw [← hw1])
     go_loopw [5] (fun i wv => ∃ j : Nat, j ≤ k ∧ i = .int .i64 j ∧ Below w1.heap.size w1 wv ∧ Hid (twiceU (L.take j) PN = false)) (fun i _ => k - (intOf i).toNat)
     case atStart => exact ⟨0, Nat.zero_le _, rfl, Below.refl _ _, κ rfl⟩
     case round =>
      clear r0 r1 r2
      obtain ⟨j, hj, rfl, hBj, HT⟩ := hrel
      have hBw := hBp.trans (hBj.mono hBp.size)
      obtain ⟨r0, r1, r2, _, _, _, _⟩ := (HBM.out.call hBj).f3
      by_cases hjk : j < k
      ·have z0 := cell_regrown (X0.out j (by omega) _ hBw)
       have y0 := cell_regrown r0
       have cS := fun d os => Calls.regrown_of (HSM.out j (by omega) (grow (redrawn wr d) os))
       have j0 : (0 : Int) ≤ (j : Int) := by omega
       have j1 : (j : Int) < (k : Int) := by omega
       have j2 : (j : Int) < (L.length : Int) := by omega
       cases hq : same (L[j]'(by omega)).name PN with
       | true =>
        have HY := κ (HLBk.out (HTA.out PN j k hjk hk hq))
        rw [hq] at cS; clear hq
        obtain ⟨M, hM⟩ : ∃ x, x = bs (L[j]'(by omega)).name := ⟨_, rfl⟩
        rw [← hM] at z0 cS
        clear hM
        go_wp2
        refine wp_region_quiet_below (by kernel_rfl) (by kernel_rfl) ?_
        repeat (first | go_big_quiet_step (with_reducible exact cS _ _) | quiet_step (with_reducible exact cS _ _))
        refine wpQuiet_nil ?_
        intro wq hw'
        have hBq := regrownZ hw'
        clear hw' cS y0 z0
        have hBv := hBw.trans (hBq.mono hBw.size)
        go_wp2
        go_ret
        exact ⟨ret_bool HY.out.symm, hBv⟩
       | false =>
        have HY := κ (HTN.out PN j (by omega) hq HT.out)
        rw [hq] at cS; clear hq
        obtain ⟨M, hM⟩ : ∃ x, x = bs (L[j]'(by omega)).name := ⟨_, rfl⟩
        rw [← hM] at z0 cS
        clear hM
        go_wp2
        refine wp_region_quiet_below (by kernel_rfl) (by kernel_rfl) ?_
        repeat (first | go_big_quiet_step (with_reducible exact cS _ _) | quiet_step (with_reducible exact cS _ _))
        refine wpQuiet_nil ?_
        intro wq hw'
        have hBq := regrownZ hw'
        clear hw' cS y0 z0
        have hBv := hBw.trans (hBq.mono hBw.size)
        go_wp2
        go_roundw
        case rel => exact ⟨j + 1, by omega, by go_num, hBj.trans (hBq.mono hBj.size), HY⟩
        case measure => simp [intOf]; omega
      ·obtain rfl : j = k := by omega
       have HN := κ (HLNk.out HO.out HT.out)
       go_wp2
       go_roundw
       case rel => exact ⟨j + 1, by omega, by go_num, hBw, HN⟩
       case measure => simp [intOf]; omega
    ·have pE := ne_empty n1
     have pF := isEmpty_f n1
     have HO := κ ho
     clear ho
     go_wp2
     obtain ⟨w1, hw1⟩ : ∃ x, x = wr.alloc (.cells #[.string N, .string V, .bool true] 85) := ⟨_, rfl⟩
     rw [← hw1] at hBp r0 r1 r2 HBM
     (try rw [← hw1])
     go_loopw [5] (fun i wv => ∃ j : Nat, j ≤ k ∧ i = .int .i64 j ∧ Below w1.heap.size w1 wv ∧ Hid (twiceU (L.take j) PN = false)) (fun i _ => k - (intOf i).toNat)
     case atStart => exact ⟨0, Nat.zero_le _, rfl, Below.refl _ _, κ rfl⟩
     case round =>
      clear r0 r1 r2
      obtain ⟨j, hj, rfl, hBj, HT⟩ := hrel
      have hBw := hBp.trans (hBj.mono hBp.size)
      obtain ⟨r0, r1, r2, _, _, _, _⟩ := (HBM.out.call hBj).f3
      by_cases hjk : j < k
      ·have z0 := cell_regrown (X0.out j (by omega) _ hBw)
       have y0 := cell_regrown r0
       have cS := fun d os => Calls.regrown_of (HSM.out j (by omega) (grow (redrawn wr d) os))
       have j0 : (0 : Int) ≤ (j : Int) := by omega
       have j1 : (j : Int) < (k : Int) := by omega
       have j2 : (j : Int) < (L.length : Int) := by omega
       cases hq : same (L[j]'(by omega)).name PN with
       | true =>
        have HY := κ (HLBk.out (HTA.out PN j k hjk hk hq))
        rw [hq] at cS; clear hq
        obtain ⟨M, hM⟩ : ∃ x, x = bs (L[j]'(by omega)).name := ⟨_, rfl⟩
        rw [← hM] at z0 cS
        clear hM
        go_wp2
        refine wp_region_quiet_below (by kernel_rfl) (by kernel_rfl) ?_
        repeat (first | go_big_quiet_step (with_reducible exact cS _ _) | quiet_step (with_reducible exact cS _ _))
        refine wpQuiet_nil ?_
        intro wq hw'
        have hBq := regrownZ hw'
        clear hw' cS y0 z0
        have hBv := hBw.trans (hBq.mono hBw.size)
        go_wp2
        go_ret
        exact ⟨ret_bool HY.out.symm, hBv⟩
       | false =>
        have HY := κ (HTN.out PN j (by omega) hq HT.out)
        rw [hq] at cS; clear hq
        obtain ⟨M, hM⟩ : ∃ x, x = bs (L[j]'(by omega)).name := ⟨_, rfl⟩
        rw [← hM] at z0 cS
        clear hM
        go_wp2
        refine wp_region_quiet_below (by kernel_rfl) (by kernel_rfl) ?_
        repeat (first | go_big_quiet_step (with_reducible exact cS _ _) | quiet_step (with_reducible exact cS _ _))
        refine wpQuiet_nil ?_
        intro wq hw'
        have hBq := regrownZ hw'
        clear hw' cS y0 z0
        have hBv := hBw.trans (hBq.mono hBw.size)
        go_wp2
        go_roundw
        case rel => exact ⟨j + 1, by omega, by go_num, hBj.trans (hBq.mono hBj.size), HY⟩
        case measure => simp [intOf]; omega
      ·obtain rfl : j = k := by omega
       have HN := κ (HLNk.out HO.out HT.out)
       go_wp2
       go_roundw
       case rel => exact ⟨j + 1, by omega, by go_num, hBw, HN⟩
       case measure => simp [intOf]; omega
    all_goals
     have HE := κ (HLB.out k hlt HP.out (.inl ho))
     clear ho
     go_wp2
     go_ret
     exact ⟨ret_bool HE.out.symm, hBp⟩
   ·have HE := κ (HLE.out k (by omega) HP.out)
    go_wp2
    go_ret
    exact ⟨ret_bool HE.out.symm, hB⟩
end Go.Proofs.YtipdiddjhimdcaaGreatDoor
