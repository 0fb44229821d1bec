/-
  Packed: XRwr, XUrz, XBld, XUrw, XRpuk.
-/
import Derived.Test.YtipdiddjhimdcaaGreatDoorB06
import Derived.Test.YtipdiddjhimdcaaGreatDoorB07
import Derived.Lib.QuietBelow
import Derived.Test.YtipdiddjhimdcaaGreatDoorShelf
import Derived.Test.YtipdiddjhimdcaaGreatDoorB04
import Derived.Lib.Builder
import Derived.Lib.AppendStr
import Derived.Lib.UnsafeStr
import Derived.Laws.Externs
import Derived.Test.YtipdiddjhimdcaaGreatDoorB09
import Derived.Deep.RegionHeld3
namespace Go.Proofs.YtipdiddjhimdcaaGreatDoor
set_option linter.unusedSimpArgs false
set_option linter.unusedVariables false
open Go.RowKit Go.Sort

set_option maxHeartbeats 400000 in
theorem has3_c (s : ByteArray) (hs : s.size ≤ 9223372036854775807) (c : UInt8) (w : World) :
    Calls Tryz.prog 125 #[.string s, .int .u8 c.toNat] w fun e w' => e = .returned (.bool (hasb (us s) c)) ∧ w = w' := by
  go_enter Tryz.func125, Tryz.ntmps125
  go_wp2
  go_loop [5] (fun i => ∃ k : Nat, k ≤ s.size ∧ i = .int .i64 k ∧ hasb ((us s).drop k) c = hasb (us s) c) (fun i => s.size - (intOf i).toNat)
  case atStart => exact ⟨0, Nat.zero_le _, rfl, rfl⟩
  case round =>
    obtain ⟨k, hk, rfl, hb⟩ := hrel
    have HB := Lib.hid hb; clear hb
    by_cases hlt : k < s.size
    · have hd := Lib.hid (drop_us s k hlt)
      go_wp2
      · go_ret
        rename_i h _
        refine ⟨?_, rfl⟩
        rw [← HB.out, hd.out]; simp at h; simp [hasb]; omega
      · go_round
        case rel => exact ⟨k + 1, by omega, by go_num, by rename_i h; rw [← HB.out, hd.out]; simp at h; simp [hasb]; omega⟩
        case measure => simp [intOf]; omega
    · go_wp2
      go_ret
      refine ⟨?_, rfl⟩
      rw [← HB.out, drop_us_end s k (by omega)]; rfl
theorem mayR_cases (K : List UInt8) (c : UInt8) :
    (((c.toNat : Int) != 37) = false ∧ mayW K c = true) ∨ (((c.toNat : Int) != 37) = true ∧ (bits BinOp.and IntKind.i64 (cls c) 16 == 0) = false ∧ mayW K c = true) ∨
    (((c.toNat : Int) != 37) = true ∧ (bits BinOp.and IntKind.i64 (cls c) 16 == 0) = true ∧ hasb K c = true ∧ mayW K c = true) ∨ (((c.toNat : Int) != 37) = true ∧ (bits BinOp.and IntKind.i64 (cls c) 16 == 0) = true ∧ hasb K c = false ∧ mayW K c = false) := by
  rcases mayW_cases K c with h | h | ⟨h1, h2, h3, h4⟩ | ⟨h1, h2, h3, h4⟩
  · exact .inl h
  · exact .inr (.inl h)
  · exact .inr (.inr (.inl ⟨h1, h2, by rw [(idx_has K c).2, decide_eq_true (by omega)], h4⟩))
  · exact .inr (.inr (.inr ⟨h1, h2, by rw [(idx_has K c).2, decide_eq_false (by omega)], h4⟩))

set_option maxHeartbeats 1600000 in
theorem writtenR_c (s K : ByteArray) (hs : s.size ≤ 4294967280) (hK : K.size ≤ 4294967280) (w : World) :
    Calls Tryz.prog 126 #[.string s, .string K] w fun e w' => e = .returned (.tuple #[.string (bs (optB (writtenS (us s) (us K))).1), .bool (optB (writtenS (us s) (us K))).2]) ∧ Below w.heap.size w w' := by
  have HU := Lib.hid (fun wx => unescapeR_c s (by omega) wx)
  have HWB := Lib.hid (fun k h hb => written_bad s (us K) k h hb)
  have HWM := Lib.hid (fun k h hp hb => written_more s (us K) k h hp hb)
  have HWE := Lib.hid (fun k h hp => written_end s (us K) k h hp)
  go_enter Tryz.func126, Tryz.ntmps126
  go_wp2
  go_loop [6] (fun i => ∃ k : Nat, k ≤ s.size ∧ i = .int .i64 k ∧ Hid (((us s).take k).all (mayW (us K)) = true)) (fun i => s.size - (intOf i).toNat)
  case atStart => exact ⟨0, Nat.zero_le _, rfl, Lib.hid rfl⟩
  case round =>
    obtain ⟨k, hk, rfl, HP⟩ := hrel
    by_cases hlt : k < s.size
    · have HH := Lib.hid (fun wx => has3_c K (by omega) s[k] wx)
      rcases mayR_cases (us K) s[k] with ⟨h1, hm⟩ | ⟨h1, h2, hm⟩ | ⟨h1, h2, h3, hm⟩ | ⟨h1, h2, h3, hm⟩
      iterate 3
        · try rw [h3] at HH
          have HN := Lib.hid (HWM.out k hlt HP.out hm)
          clear hm
          go_wp2_with (first | (go_at_call 162; refine (classR_c _ _).mono ?_; rintro e w' ⟨rfl, rfl⟩) | (go_at_call 125; refine (HH.out _).mono ?_; rintro e w' ⟨rfl, rfl⟩))
          go_round
          case rel => exact ⟨k + 1, by omega, by go_num, HN⟩
          case measure => simp [intOf]; omega
      · rw [h3] at HH
        have HN := Lib.hid (HWB.out k hlt hm)
        clear hm
        go_wp2_with (first | (go_at_call 162; refine (classR_c _ _).mono ?_; rintro e w' ⟨rfl, rfl⟩) | (go_at_call 125; refine (HH.out _).mono ?_; rintro e w' ⟨rfl, rfl⟩))
        go_ret2
        exact ⟨by rw [HN.out]; rfl, Below.refl _ _⟩
    · obtain ⟨b, hb1, hb2⟩ := HWE.out k (by omega) HP.out
      have HN := Lib.hid hb1
      obtain ⟨q, hq⟩ : ∃ q, q = unescape (us s) := ⟨_, rfl⟩
      rw [← hq] at HU hb2 HN
      clear hq hb1
      obtain ⟨t, e⟩ := q
      dsimp only at HU hb2 HN
      go_wp2_with (first | (go_at_call 170; refine (HU.out _).mono ?_; rintro e w1 ⟨rfl, hC1⟩))
      go_ret2
      exact ⟨ret_sb (by rw [HN.out]) (by rw [HN.out]), hC1⟩

set_option maxRecDepth 100000 in
set_option maxHeartbeats 3200000 in
theorem readR_c (v0 : Value) (Ps : List (List UInt8)) (K : ByteArray) (hK : K.size ≤ 4294967280) (w : World) (hv : RStrs w v0 Ps) (hbd : ∀ x ∈ Ps, x.length ≤ 4294967280) (hn : Ps.length ≤ 4294967290) :
    Calls Tryz.prog 129 #[v0, .string K] w (ReadPost (optP (readGo (us K) Ps)) w) := by
  rcases hv.form with ⟨ao, cap, rfl, hm1, c1⟩
  have C1 := Lib.hid c1
  have HBD := Lib.hid hbd
  clear c1 hv hbd
  unfold maxLen at hm1
  have HRS := Lib.hid (fun L k h n v a b ha hb hp => read_step (us K) Ps L k h n v a b ha hb hp)
  have HRE := Lib.hid (fun L k h hp => read_end (us K) Ps L k h hp)
  obtain ⟨R, hR⟩ : ∃ R, R = optP (readGo (us K) Ps) := ⟨_, rfl⟩
  rw [← hR] at HRS HRE ⊢
  go_enter Tryz.func129, Tryz.ntmps129
  go_wp2
  go_loopw [6, 7] (fun v i wr => ∃ (k : Nat) (L : List Prm), k ≤ Ps.length ∧ Hid (L.length = k) ∧ i = .int .i64 k ∧ Prms wr w.heap.size v L ∧ Below w.heap.size w wr ∧ Hid (readGo (us K) Ps = (readGo (us K) (Ps.drop k)).map (L ++ ·))) (fun _ i _ => Ps.length - (intOf i).toNat)
  case atStart => exact ⟨0, [], Nat.zero_le _, Lib.hid rfl, rfl, Prms.nil _ _, Below.refl _ _, Lib.hid (by simp)⟩
  case round =>
    obtain ⟨k, L, hk, HLk, rfl, hown, hB, HP⟩ := hrel
    by_cases hlt : k < Ps.length
    · obtain ⟨b, off, rfl, hb1, hc1⟩ := C1.out (by omega)
      have x0 : wr.cell? ⟨b, off + k, none⟩ = some (.string (bs Ps[k])) := (hB.cell (p := ⟨b, off + k, none⟩) hb1).trans (hc1 k hlt)
      have hxl := HBD.out _ (List.getElem_mem hlt)
      have hcl := cutb_le 61 Ps[k]
      have HCT := Lib.hid (fun wx => cutR_c (bs Ps[k]) (by rw [size_bs]; omega) 61 wx)
      rw [us_bs] at HCT
      have HRk := Lib.hid (fun n v a b ha hb => HRS.out L k hlt n v a b ha hb HP.out)
      obtain ⟨X, hX⟩ : ∃ X, X = bs Ps[k] := ⟨_, rfl⟩
      rw [← hX] at x0 HCT
      obtain ⟨q, hq⟩ : ∃ q, q = cutb 61 Ps[k] := ⟨_, rfl⟩
      rw [← hq] at HCT hcl HRk
      clear hX hq hc1 HP
      obtain ⟨n0, v0, has⟩ := q
      dsimp only at HCT hcl HRk
      have HP1 := Lib.hid (fun wx => writtenR_c (bs n0) K (by rw [size_bs]; omega) hK wx)
      have HP2 := Lib.hid (fun wx => writtenR_c (bs v0) K (by rw [size_bs]; omega) hK wx)
      rw [us_bs] at HP1 HP2
      have HRk' := Lib.hid (HRk.out (optB (writtenS n0 (us K))).1 (optB (writtenS v0 (us K))).1 (optB (writtenS n0 (us K))).2 (optB (writtenS v0 (us K))).2 (by rfl) (by rfl))
      have hl1 := optB_len n0 (us K)
      have hl2 := optB_len v0 (us K)
      obtain ⟨a, ha⟩ : ∃ a, a = optB (writtenS n0 (us K)) := ⟨_, rfl⟩
      obtain ⟨c, hc⟩ : ∃ a, a = optB (writtenS v0 (us K)) := ⟨_, rfl⟩
      rw [← ha] at HP1 HRk' hl1
      rw [← hc] at HP2 HRk' hl2
      clear ha hc HRk
      obtain ⟨n, a⟩ := a
      obtain ⟨v, c⟩ := c
      dsimp only at HP1 HP2 HRk' hl1 hl2
      have hcs := HRk'.out
      have HO := Lib.hid hown
      have HB := Lib.hid hB
      have k0 : (0 : Int) ≤ (k : Int) := by omega
      have k1 : (k : Int) < (Ps.length : Int) := by omega
      obtain ⟨N, hN⟩ : ∃ N, N = bs n := ⟨_, rfl⟩
      obtain ⟨V, hV⟩ : ∃ V, V = bs v := ⟨_, rfl⟩
      rw [← hN] at HP1
      rw [← hV] at HP2
      have HNu := Lib.hid (show us N = n by rw [hN, us_bs])
      have HVu := Lib.hid (show us V = v by rw [hV, us_bs])
      clear hN hV hown hB hb1 HRk'
      rcases hcs with ⟨rfl, hR0⟩ | ⟨rfl, rfl, hR0⟩ | ⟨rfl, rfl, hst⟩
      iterate 2
        · have HE := Lib.hid hR0
          clear hR0
          go_wp2_with (first | (go_at_call 122; refine (HCT.out _).mono ?_; rintro e w1 ⟨rfl, hD⟩; have hb1 := HB.out.trans (hD.below (B := w.heap.size)); have ho1 := HO.out.below (hD.below (B := wr.heap.size)) (Nat.le_refl _)) | (go_at_call 126; (first | ((with_reducible refine (HP1.out _).mono ?_); rintro e w2 ⟨rfl, hC2⟩) | ((with_reducible refine (HP2.out _).mono ?_); rintro e w2 ⟨rfl, hC2⟩)); have ho1 := ho1.below hC2 (Nat.le_refl _); have hb1 := hb1.trans (hC2.mono hb1.size)))
          go_ret2
          exact ⟨_, by rw [HE.out]; rfl, .inl ⟨⟨_, _, rfl⟩, by rw [HE.out]⟩, Fresh.nil _ _ _, hb1⟩
      · have HE := Lib.hid hst
        clear hst
        go_wp2_with (first | (go_at_call 122; refine (HCT.out _).mono ?_; rintro e w1 ⟨rfl, hD⟩; have hb1 := HB.out.trans (hD.below (B := w.heap.size)); have ho1 := HO.out.below (hD.below (B := wr.heap.size)) (Nat.le_refl _)) | (go_at_call 126; (first | ((with_reducible refine (HP1.out _).mono ?_); rintro e w2 ⟨rfl, hC2⟩) | ((with_reducible refine (HP2.out _).mono ?_); rintro e w2 ⟨rfl, hC2⟩)); have ho1 := ho1.below hC2 (Nat.le_refl _); have hb1 := hb1.trans (hC2.mono hb1.size)) | (at_builtin; refine wpList_appP1 ⟨n, v, has⟩ HNu.out HVu.out rfl rfl rfl Tryz.underlying22 infoP rfl rfl ho1 hb1 (Nat.le_refl _) ?_ ?_; (focus (have := HLk.out; omega)); intro v' w' hown2 hb2))
        go_roundw
        case rel => exact ⟨k + 1, _, by omega, Lib.hid (by rw [List.length_append, HLk.out]; rfl), by go_num, hown2, hb2, HE⟩
        case measure => simp [intOf]; omega
    · have HE := Lib.hid (HRE.out L k (by omega) HP.out)
      clear HP
      go_wp2
      go_ret2
      exact ⟨_, by rw [HE.out]; rfl, by rw [HE.out]; exact hown.read, hown.fresh, hB⟩


end Go.Proofs.YtipdiddjhimdcaaGreatDoor

namespace Go.Proofs.YtipdiddjhimdcaaGreatDoor
set_option linter.unusedSimpArgs false
set_option linter.unusedVariables false
open Go.RowKit Go.Sort

theorem schemeR_c (s : ByteArray) (w : World) :
    Calls Tryz.prog 124 #[.string s] w fun e w' => e = .returned (.bool (schemeS (us s))) ∧ w = w' := by
  by_cases h1 : us s = nSip
  · obtain rfl : s = ⟨#[115, 105, 112]⟩ := us_inj h1
    clear h1
    go_enter Tryz.func124, Tryz.ntmps124
    go_wp2
    go_ret
    exact ⟨ret_bool (by decide +kernel), rfl⟩
  by_cases h2 : us s = nSips
  · obtain rfl : s = ⟨#[115, 105, 112, 115]⟩ := us_inj h2
    clear h1 h2
    go_enter Tryz.func124, Tryz.ntmps124
    go_wp2
    go_ret
    exact ⟨ret_bool (by decide +kernel), rfl⟩
  by_cases h3 : us s = nPres
  · obtain rfl : s = ⟨#[112, 114, 101, 115]⟩ := us_inj h3
    clear h1 h2 h3
    go_enter Tryz.func124, Tryz.ntmps124
    go_wp2
    go_ret
    exact ⟨ret_bool (by decide +kernel), rfl⟩
  have HE := Lib.hid (show schemeS (us s) = false by unfold schemeS; simp [h1, h2, h3])
  have n1 : ¬ s.toList = [115, 105, 112] := by rw [toList_us]; exact h1
  have n2 : ¬ s.toList = [115, 105, 112, 115] := by rw [toList_us]; exact h2
  have n3 : ¬ s.toList = [112, 114, 101, 115] := by rw [toList_us]; exact h3
  clear h1 h2 h3
  go_enter Tryz.func124, Tryz.ntmps124
  go_wp2
  go_ret
  exact ⟨ret_bool (by rw [HE.out]; simp [n1, n2, n3]), rfl⟩
theorem regrownZ {w wq : World} (h : ∃ p : Regrown, wq = grow (redrawn w p.d) p.os) : Below w.heap.size w wq := by obtain ⟨⟨d, os⟩, rfl⟩ := h; exact below_regrown w d os
theorem okU_cs (p : Prm) (N V : ByteArray) (hN : N.size = p.name.length) (hV : V.size = p.value.length) :
    (N.size = 0 ∧ okU p = false) ∨ (N.size ≠ 0 ∧ 64 < N.size ∧ okU p = false) ∨ (N.size ≠ 0 ∧ ¬ 64 < N.size ∧ 64 < V.size ∧ okU p = false) ∨
    (N.size ≠ 0 ∧ ¬ 64 < N.size ∧ ¬ 64 < V.size ∧ p.has = false ∧ V.size ≠ 0 ∧ okU p = false) ∨
    (N.size ≠ 0 ∧ ¬ 64 < N.size ∧ ¬ 64 < V.size ∧ p.has = false ∧ V.size = 0 ∧ okU p = true) ∨ (N.size ≠ 0 ∧ ¬ 64 < N.size ∧ ¬ 64 < V.size ∧ p.has = true ∧ okU p = true) := by
  rcases okU_cases p N V hN hV false with h | h | h | ⟨_, _, _, h⟩ | ⟨a, b, c, _, d⟩ | ⟨a, b, c, _, d⟩ | ⟨a, b, c, _, d⟩
  · exact .inl h
  · exact .inr (.inl h)
  · exact .inr (.inr (.inl h))
  · cases h
  · exact .inr (.inr (.inr (.inl ⟨a, b, c, d⟩)))
  · exact .inr (.inr (.inr (.inr (.inl ⟨a, b, c, d⟩))))
  · exact .inr (.inr (.inr (.inr (.inr ⟨a, b, c, d⟩))))
theorem twice_at (L : List Prm) (n : List UInt8) (j k : Nat) (hj : j < k) (hk : k ≤ L.length) (h : same (L[j]'(by omega)).name n = true) : twiceU (L.take k) n = true := by
  unfold twiceU
  exact List.any_eq_true.2 ⟨L[j]'(by omega), by rw [List.mem_take_iff_getElem]; exact ⟨j, by omega, rfl⟩, h⟩
theorem twice_next (L : List Prm) (n : List UInt8) (j : Nat) (hj : j < L.length) (h : same L[j].name n = false) (ht : twiceU (L.take j) n = false) : twiceU (L.take (j + 1)) n = false := by
  unfold twiceU at ht ⊢
  rw [List.take_succ_eq_append_getElem hj, List.any_append, ht]; simp [h]

set_option maxRecDepth 100000 in
set_option maxHeartbeats 6400000 in
theorem listR_c' (v : Value) (L : List Prm) (w : World) (h1 : RPrms w v L) (hbd : ∀ p ∈ L, p.name.length ≤ 4294967280 ∧ p.value.length ≤ 4294967280) :
    Calls Tryz.prog 166 #[v] w fun e w' => e = .returned (.bool (listU L)) ∧ Below w.heap.size w w' := by
  obtain ⟨ao, cap, rfl, hm1, c1⟩ := h1.form
  have C1 := Lib.hid c1
  have HBD := Lib.hid hbd
  clear c1 h1 hbd
  unfold maxLen at hm1
  by_cases h16 : L.length ≤ 16
  case neg =>
    have HE := Lib.hid (list_long L h16)
    go_enter Tryz.func166, Tryz.ntmps166
    go_wp2
    go_ret
    exact ⟨ret_bool HE.out.symm, Below.refl _ _⟩
  · have HLB := Lib.hid (fun k hk => list_bad L k hk)
    have HLN := Lib.hid (fun k hk => list_next L k hk)
    have HLE := Lib.hid (fun k hk => list_end L k hk h16)
    have HTA := Lib.hid (fun n j k => twice_at L n j k)
    have HTN := Lib.hid (fun n j => twice_next L n j)
    go_enter Tryz.func166, Tryz.ntmps166
    go_wp2
    go_loopw [3] (fun i wr => ∃ k : Nat, k ≤ L.length ∧ i = .int .i64 k ∧ Below w.heap.size w wr ∧ Hid (listGo [] L = listGo (L.take k) (L.drop k))) (fun i _ => L.length - (intOf i).toNat)
    case atStart => exact ⟨0, Nat.zero_le _, rfl, Below.refl _ _, Lib.hid rfl⟩
    case round =>
      obtain ⟨k, hk, rfl, hB, HP⟩ := hrel
      by_cases hlt : k < L.length
      · obtain ⟨b, off, rfl, hb1, hc1⟩ := C1.out (by omega)
        have X0 := Lib.hid (fun j (hj : j < L.length) (wx : World) (hx : Below w.heap.size w wx) => (show wx.cell? ⟨b, off + j * 3, none⟩ = some (.string (bs L[j].name)) from by rw [hx.cell (p := ⟨b, off + j * 3, none⟩) hb1]; exact (hc1 j hj).1))
        have x0 : wr.cell? ⟨b, off + k * 3, none⟩ = some (.string (bs L[k].name)) := by rw [hB.cell (p := ⟨b, off + k * 3, none⟩) hb1]; exact (hc1 k hlt).1
        have x1 : wr.cell? ⟨b, off + k * 3 + 1, none⟩ = some (.string (bs L[k].value)) := by rw [hB.cell (p := ⟨b, off + k * 3 + 1, none⟩) hb1]; exact (hc1 k hlt).2.1
        have x2 : wr.cell? ⟨b, off + k * 3 + 2, none⟩ = some (.bool L[k].has) := by rw [hB.cell (p := ⟨b, off + k * 3 + 2, none⟩) hb1]; exact (hc1 k hlt).2.2
        have hpb := HBD.out _ (List.getElem_mem hlt)
        have hcs := okU_cs L[k] (bs L[k].name) (bs L[k].value) (size_bs _) (size_bs _)
        have hsm := fun j (hj : j < L.length) wx => sameR_c (bs L[j].name) (bs L[k].name) (by rw [size_bs]; have := HBD.out _ (List.getElem_mem hj); omega) (by rw [size_bs]; omega) wx
        simp only [us_bs] at hsm
        obtain ⟨PN, hPN⟩ : ∃ x, x = L[k].name := ⟨_, rfl⟩
        obtain ⟨N, hN⟩ : ∃ N, N = bs L[k].name := ⟨_, rfl⟩
        rw [← hN] at x0 hcs hsm
        rw [← hPN] at hsm
        have HLBk := Lib.hid (fun h => HLB.out k hlt HP.out (.inr (hPN ▸ h)))
        have HLNk := Lib.hid (fun h1 h2 => HLN.out k hlt HP.out h1 (hPN ▸ h2))
        have HSM := Lib.hid hsm
        obtain ⟨V, hV⟩ : ∃ V, V = bs L[k].value := ⟨_, rfl⟩
        rw [← hV] at x1 hcs
        have hNs : N.size ≤ 4294967280 := by rw [hN, size_bs]; omega
        have hVs : V.size ≤ 4294967280 := by rw [hV, size_bs]; omega
        have k0 : (0 : Int) ≤ (k : Int) := by omega
        have k1 : (k : Int) < (L.length : Int) := by omega
        obtain ⟨h, hh⟩ : ∃ h, h = L[k].has := ⟨_, rfl⟩
        rw [← hh] at x2 hcs
        have bm0 : Blk (wr.alloc (.cells #[.string N, .string V, .bool h] 85)) wr.heap.size 85 #[.string N, .string V, .bool h] := Blk.new _ _ _
        have hBp := hB.alloc hB.size (.cells #[.string N, .string V, .bool h] 85)
        have HBM := Lib.hid bm0
        obtain ⟨r0, r1, r2, f0, f1, f2, hz⟩ := bm0.f3
        clear hc1 hb1 hpb hsm hPN hN hV hh bm0
        rcases hcs with ⟨n1, ho⟩ | ⟨n1, n2, ho⟩ | ⟨n1, n2, n3, ho⟩ | ⟨n1, n2, n3, rfl, n4, ho⟩ | ⟨n1, n2, n3, rfl, n4, ho⟩ | ⟨n1, n2, n3, rfl, ho⟩
        · obtain rfl := eq_empty n1
          clear n1
          have HE := Lib.hid (HLB.out k hlt HP.out (.inl ho))
          clear ho
          go_wp2
          go_ret
          exact ⟨ret_bool HE.out.symm, hBp⟩
        · have pE := ne_empty n1
          have pF := isEmpty_f n1
          have HE := Lib.hid (HLB.out k hlt HP.out (.inl ho))
          clear ho
          go_wp2
          go_ret
          exact ⟨ret_bool HE.out.symm, hBp⟩
        · have pE := ne_empty n1
          have pF := isEmpty_f n1
          have HE := Lib.hid (HLB.out k hlt HP.out (.inl ho))
          clear ho
          go_wp2
          go_ret
          exact ⟨ret_bool HE.out.symm, hBp⟩
        · have pE := ne_empty n1
          have pF := isEmpty_f n1
          have qE := ne_empty n4
          have qF := isEmpty_f n4
          have HE := Lib.hid (HLB.out k hlt HP.out (.inl ho))
          clear ho
          go_wp2
          go_ret
          exact ⟨ret_bool HE.out.symm, hBp⟩
        · have pE := ne_empty n1
          have pF := isEmpty_f n1
          obtain rfl := eq_empty n4
          clear n4
          have HO := Lib.hid ho
          clear ho
          go_wp2
          obtain ⟨w1, hw1⟩ : ∃ x, x = wr.alloc (.cells #[.string N, .string ByteArray.empty, .bool false] 85) := ⟨_, rfl⟩
          rw [← hw1] at hBp r0 r1 r2 HBM
          (try rw [← hw1])
          go_loopw [5] (fun i wv => ∃ j : Nat, j ≤ k ∧ i = .int .i64 j ∧ Below w1.heap.size w1 wv ∧ Hid (twiceU (L.take j) PN = false)) (fun i _ => k - (intOf i).toNat)
          case atStart => exact ⟨0, Nat.zero_le _, rfl, Below.refl _ _, Lib.hid rfl⟩
          case round =>
            clear r0 r1 r2
            obtain ⟨j, hj, rfl, hBj, HT⟩ := hrel
            have hBw := hBp.trans (hBj.mono hBp.size)
            obtain ⟨r0, r1, r2, _, _, _, _⟩ := (HBM.out.call hBj).f3
            by_cases hjk : j < k
            · have z0 := cell_regrown (X0.out j (by omega) _ hBw)
              have y0 := cell_regrown r0
              have cS := fun d os => Calls.regrown_of (HSM.out j (by omega) (grow (redrawn wr d) os))
              have j0 : (0 : Int) ≤ (j : Int) := by omega
              have j1 : (j : Int) < (k : Int) := by omega
              have j2 : (j : Int) < (L.length : Int) := by omega
              cases hq : same (L[j]'(by omega)).name PN with
              | true =>
                have HY := Lib.hid (HLBk.out (HTA.out PN j k hjk hk hq))
                rw [hq] at cS; clear hq
                obtain ⟨M, hM⟩ : ∃ x, x = bs (L[j]'(by omega)).name := ⟨_, rfl⟩
                rw [← hM] at z0 cS
                clear hM
                go_wp2
                refine wp_region_quiet_below (by kernel_rfl) (by kernel_rfl) ?_
                repeat (first | go_big_quiet_step (with_reducible exact cS _ _) | quiet_step (with_reducible exact cS _ _))
                refine wpQuiet_nil ?_
                intro wq hw'
                have hBq := regrownZ hw'
                clear hw' cS y0 z0
                have hBv := hBw.trans (hBq.mono hBw.size)
                go_wp2
                go_ret
                exact ⟨ret_bool HY.out.symm, hBv⟩
              | false =>
                have HY := Lib.hid (HTN.out PN j (by omega) hq HT.out)
                rw [hq] at cS; clear hq
                obtain ⟨M, hM⟩ : ∃ x, x = bs (L[j]'(by omega)).name := ⟨_, rfl⟩
                rw [← hM] at z0 cS
                clear hM
                go_wp2
                refine wp_region_quiet_below (by kernel_rfl) (by kernel_rfl) ?_
                repeat (first | go_big_quiet_step (with_reducible exact cS _ _) | quiet_step (with_reducible exact cS _ _))
                refine wpQuiet_nil ?_
                intro wq hw'
                have hBq := regrownZ hw'
                clear hw' cS y0 z0
                have hBv := hBw.trans (hBq.mono hBw.size)
                go_wp2
                go_roundw
                case rel => exact ⟨j + 1, by omega, by go_num, hBj.trans (hBq.mono hBj.size), HY⟩
                case measure => simp [intOf]; omega
            · obtain rfl : j = k := by omega
              have HN := Lib.hid (HLNk.out HO.out HT.out)
              go_wp2
              go_roundw
              case rel => exact ⟨j + 1, by omega, by go_num, hBw, HN⟩
              case measure => simp [intOf]; omega
        · have pE := ne_empty n1
          have pF := isEmpty_f n1
          have HO := Lib.hid ho
          clear ho
          go_wp2
          obtain ⟨w1, hw1⟩ : ∃ x, x = wr.alloc (.cells #[.string N, .string V, .bool true] 85) := ⟨_, rfl⟩
          rw [← hw1] at hBp r0 r1 r2 HBM
          (try rw [← hw1])
          go_loopw [5] (fun i wv => ∃ j : Nat, j ≤ k ∧ i = .int .i64 j ∧ Below w1.heap.size w1 wv ∧ Hid (twiceU (L.take j) PN = false)) (fun i _ => k - (intOf i).toNat)
          case atStart => exact ⟨0, Nat.zero_le _, rfl, Below.refl _ _, Lib.hid rfl⟩
          case round =>
            clear r0 r1 r2
            obtain ⟨j, hj, rfl, hBj, HT⟩ := hrel
            have hBw := hBp.trans (hBj.mono hBp.size)
            obtain ⟨r0, r1, r2, _, _, _, _⟩ := (HBM.out.call hBj).f3
            by_cases hjk : j < k
            · have z0 := cell_regrown (X0.out j (by omega) _ hBw)
              have y0 := cell_regrown r0
              have cS := fun d os => Calls.regrown_of (HSM.out j (by omega) (grow (redrawn wr d) os))
              have j0 : (0 : Int) ≤ (j : Int) := by omega
              have j1 : (j : Int) < (k : Int) := by omega
              have j2 : (j : Int) < (L.length : Int) := by omega
              cases hq : same (L[j]'(by omega)).name PN with
              | true =>
                have HY := Lib.hid (HLBk.out (HTA.out PN j k hjk hk hq))
                rw [hq] at cS; clear hq
                obtain ⟨M, hM⟩ : ∃ x, x = bs (L[j]'(by omega)).name := ⟨_, rfl⟩
                rw [← hM] at z0 cS
                clear hM
                go_wp2
                refine wp_region_quiet_below (by kernel_rfl) (by kernel_rfl) ?_
                repeat (first | go_big_quiet_step (with_reducible exact cS _ _) | quiet_step (with_reducible exact cS _ _))
                refine wpQuiet_nil ?_
                intro wq hw'
                have hBq := regrownZ hw'
                clear hw' cS y0 z0
                have hBv := hBw.trans (hBq.mono hBw.size)
                go_wp2
                go_ret
                exact ⟨ret_bool HY.out.symm, hBv⟩
              | false =>
                have HY := Lib.hid (HTN.out PN j (by omega) hq HT.out)
                rw [hq] at cS; clear hq
                obtain ⟨M, hM⟩ : ∃ x, x = bs (L[j]'(by omega)).name := ⟨_, rfl⟩
                rw [← hM] at z0 cS
                clear hM
                go_wp2
                refine wp_region_quiet_below (by kernel_rfl) (by kernel_rfl) ?_
                repeat (first | go_big_quiet_step (with_reducible exact cS _ _) | quiet_step (with_reducible exact cS _ _))
                refine wpQuiet_nil ?_
                intro wq hw'
                have hBq := regrownZ hw'
                clear hw' cS y0 z0
                have hBv := hBw.trans (hBq.mono hBw.size)
                go_wp2
                go_roundw
                case rel => exact ⟨j + 1, by omega, by go_num, hBj.trans (hBq.mono hBj.size), HY⟩
                case measure => simp [intOf]; omega
            · obtain rfl : j = k := by omega
              have HN := Lib.hid (HLNk.out HO.out HT.out)
              go_wp2
              go_roundw
              case rel => exact ⟨j + 1, by omega, by go_num, hBw, HN⟩
              case measure => simp [intOf]; omega
      · have HE := Lib.hid (HLE.out k (by omega) HP.out)
        go_wp2
        go_ret
        exact ⟨ret_bool HE.out.symm, hB⟩

end Go.Proofs.YtipdiddjhimdcaaGreatDoor

namespace Go.Proofs.YtipdiddjhimdcaaGreatDoor
open Go.RowKit

set_option maxHeartbeats 1000000 in
set_option maxRecDepth 100000 in
theorem bld_used (b : Nat) (w : World) (h0 : w.cell? ⟨b, 0, none⟩ = some (.pointer (some ⟨b, 0, none⟩))) :
    Calls Tryz.prog 143 #[.pointer (some ⟨b, 0, none⟩)] w fun e w' => e = .returned (.tuple #[]) ∧ w' = w := by
  obtain ⟨j, hj, _⟩ := Option.map_eq_some_iff.1 (show (Tryz.prog.info? 142).map (·.size) = some 2 by kernel_rfl)
  go_enter Tryz.func143, Tryz.ntmps143
  go_wp2
  rw [Lib.run_neq_ptr_same w _ Tryz.underlying139 hj]
  go_wp2
  go_end0
  exact ⟨rfl, rfl⟩

set_option maxHeartbeats 1000000 in
set_option maxRecDepth 100000 in
theorem bld_fresh (b : Nat) (w : World) (h0 : w.cell? ⟨b, 0, none⟩ = some (.pointer none)) (hsh : w.shape? b = some (142, 2)) (hfz : w.frozen? ⟨b, 0, none⟩ = false) :
    Calls Tryz.prog 143 #[.pointer (some ⟨b, 0, none⟩)] w fun e w' => e = .returned (.tuple #[]) ∧ w' = w.setCell ⟨b, 0, none⟩ (.pointer (some ⟨b, 0, none⟩)) := by
  obtain ⟨j, hj, hjs⟩ := Option.map_eq_some_iff.1 (show (Tryz.prog.info? 142).map (·.size) = some 2 by kernel_rfl)
  go_enter Tryz.func143, Tryz.ntmps143
  go_wp2
  rw [Lib.run_to_unsafe w ⟨b, 0, none⟩ Tryz.underlying139 Tryz.underlying207 hj (by rw [hjs]; decide) hsh (Nat.zero_lt_succ 1)]
  simp only [Result.andThen]
  rw [Oper.upon_value]
  go_wp2
  rw [run_callFunc_extern Tryz.func180 (by kernel_rfl) (by kernel_rfl) (by kernel_rfl) (e := Extern.AbiNoEscape.same) (by kernel_rfl)]
  rw [Lib.run_noEscape]
  simp only [Result.andThen]
  rw [Oper.upon_value]
  go_wp2
  rw [Lib.run_from_unsafe w ⟨b, 0, none⟩ Tryz.underlying207 Tryz.underlying139 hj hsh (by kernel_rfl)]
  simp only [Result.andThen]
  rw [Oper.upon_value]
  go_wp2
  go_end0
  exact ⟨rfl, rfl⟩

theorem bld_check (B b : Nat) (bs : List Value) (w : World) (h : Lib.IsBuilder 142 5 B b bs w) :
    Calls Tryz.prog 143 #[.pointer (some ⟨b, 0, none⟩)] w fun e w' => e = .returned (.tuple #[]) ∧ (Lib.BuilderAt 142 5 B b (.pointer (some ⟨b, 0, none⟩)) bs w' ∧ Below B w w') := by
  rcases h with h | h
  · refine (bld_fresh b w h.cell0 h.shape h.frozen0).mono ?_
    rintro e w' ⟨rfl, rfl⟩
    exact ⟨rfl, h.used _, (Below.refl B w).setCell (p := ⟨b, 0, none⟩) h.1 _⟩
  · refine (bld_used b w h.cell0).mono ?_
    rintro e w' ⟨rfl, rfl⟩
    exact ⟨rfl, h, Below.refl B _⟩

set_option maxHeartbeats 2000000 in
set_option maxRecDepth 100000 in
theorem bld_write' (B b : Nat) (bs : List Value) (s : ByteArray) (w : World) (h : Lib.IsBuilder 142 5 B b bs w) (hlen : bs.length + s.size ≤ 140737488355328) (hBw : B ≤ w.heap.size) :
    Calls Tryz.prog 84 #[.pointer (some ⟨b, 0, none⟩), .string s] w fun e w' => e = .returned (.tuple #[.int .i64 s.size, .nilIface]) ∧ (Lib.BuilderAt 142 5 B b (.pointer (some ⟨b, 0, none⟩)) (bs ++ Lib.strCells s) w' ∧ Below B w w') := by
  obtain ⟨i0, hi, hz0, hz1, hz2⟩ := info_parts (show (Tryz.prog.info? 5).map (fun i => (i.zero, i.size, i.bytes)) = some (some (.int .u8 0), 1, 1) by kernel_rfl)
  go_enter Tryz.func84, Tryz.ntmps84
  go_wp2_with (go_at_call 143; refine (bld_check B b bs _ h).mono ?_)
  rintro e w1 ⟨rfl, h1, hb1⟩
  obtain ⟨hB, v, hbk, hown, hne⟩ := h1
  have c0 : w1.cell? ⟨b, 0, none⟩ = some (.pointer (some ⟨b, 0, none⟩)) := by rw [Lib.cell_of_heap hbk]; rfl
  have c1 : w1.cell? ⟨b, 1, none⟩ = some v := by rw [Lib.cell_of_heap hbk]; rfl
  go_wp2_with (at_builtin; refine Lib.wpList_append_own_string _ rfl _ _ 140 9 rfl B 5 i0 Tryz.underlying140 Tryz.underlying9 hi hz0 hz1 hz2 _ _ _ rfl hown s rfl ?c3 ?c4 ?c5 ?_)
  case c3 => unfold maxLen; omega
  case c4 => omega
  case c5 => have := hb1.size; omega
  intro v' w2 hown' hgrow _
  have hlt : b < w1.heap.size := by
    rcases Nat.lt_or_ge b w1.heap.size with h' | h'
    · exact h'
    · simp [Array.getElem?_eq_none h'] at hbk
  have hb2 : w2.heap[b]? = some (.cells #[.pointer (some ⟨b, 0, none⟩), v] 142 (0, 0)) := by
    rw [hgrow.block b hlt (fun e => hne e.symm)]
    exact hbk
  have d0 : w2.cell? ⟨b, 0, none⟩ = some (.pointer (some ⟨b, 0, none⟩)) := by rw [Lib.cell_of_heap hb2]; rfl
  have d1 : w2.cell? ⟨b, 1, none⟩ = some v := by rw [Lib.cell_of_heap hb2]; rfl
  have f1 : w2.frozen? ⟨b, 1, none⟩ = false := Lib.frozen_of_heap hb2 1
  obtain ⟨ao, n', cap, rfl⟩ : ∃ ao n' cap, v' = .slice ao n' cap := by
    rcases hown'.2 with ⟨hv, _⟩ | ⟨g, cap, cur, hv, _⟩
    · exact ⟨_, _, _, hv⟩
    · exact ⟨_, _, _, hv⟩
  go_wp2
  go_ret2
  refine ⟨rfl, ?_, ?_⟩
  · exact Lib.BuilderAt.put (T := 142) (e := 5) hB hb2 (bs' := bs ++ Lib.strCells s) (by simpa [Lib.strCells_length] using hown') (by decide)
  · exact (hb1.grown hgrow (by have := hb1.size; omega) (fun k hk => (hown.lt k hk).1)).setCell (p := ⟨b, 1, none⟩) hB _

/-- a builder of the call's own that holds l -/
def Bld (B b : Nat) (l : List UInt8) (w : World) : Prop := Lib.IsBuilder 142 5 B b (Lib.byteCells l) w
theorem byteCells_len (l : List UInt8) : (Lib.byteCells l).length = l.length := by unfold Lib.byteCells; rw [List.length_map]
theorem bld_write (B b : Nat) (l : List UInt8) (s : ByteArray) (w : World) (h : Bld B b l w) (hlen : l.length + s.size ≤ 140737488355328) (hBw : B ≤ w.heap.size) :
    Calls Tryz.prog 84 #[.pointer (some ⟨b, 0, none⟩), .string s] w fun e w' => e = .returned (.tuple #[.int .i64 s.size, .nilIface]) ∧ Bld B b (l ++ us s) w' ∧ Below B w w' := by
  refine (bld_write' B b _ s w h (by rw [byteCells_len]; exact hlen) hBw).mono ?_
  rintro e w' ⟨rfl, h1, h2⟩
  refine ⟨rfl, .inr ?_, h2⟩
  have : Lib.byteCells (l ++ us s) = Lib.byteCells l ++ Lib.strCells s := by unfold Lib.byteCells Lib.strCells; rw [List.map_append]; rfl
  rw [this]; exact h1
theorem bld_str (B b : Nat) (l : List UInt8) (w : World) (h : Bld B b l w) (hBw : B ≤ w.heap.size) :
    Calls Tryz.prog 87 #[.pointer (some ⟨b, 0, none⟩)] w fun e w' => e = .returned (.string (bs l)) ∧ Below B w w' :=
  Tryz.Builder_String_any B b l w h hBw
/-- a builder that has just been made -/
theorem Bld.new {w : World} {B b : Nat} (hb : w.heap[b]? = some (.cells #[.pointer none, .slice none 0 0] 142 (0, 0))) (hB : B ≤ b) : Bld B b [] w :=
  .inl ⟨hB, .slice none 0 0, hb, World.ownsRow_nil _ _ _ _, by simp [Value.ownBlock]⟩
/-- what lies from B on is the builder's and its row's: other new blocks turn nothing -/
theorem Bld.below {w w' : World} {B b : Nat} {l : List UInt8} (h : Bld B b l w) (hB : Below w.heap.size w w') : Bld B b l w' := by
  have key : ∀ p, Lib.BuilderAt 142 5 B b p (Lib.byteCells l) w → Lib.BuilderAt 142 5 B b p (Lib.byteCells l) w' := by
    rintro p ⟨h1, v, h2, h3, h4⟩
    have hlt := (Array.getElem?_eq_some_iff.1 h2).1
    refine ⟨h1, v, by rw [hB.block b hlt]; exact h2, ?_, h4⟩
    refine ⟨h3.1, ?_⟩
    rcases h3.2 with hn | ⟨g, cap, cur, rfl, hb, hgg, rest⟩
    · exact .inl hn
    · exact .inr ⟨g, cap, cur, rfl, hb, by rw [hB.block g (Array.getElem?_eq_some_iff.1 hgg).1]; exact hgg, rest⟩
  rcases h with h | h
  · exact .inl (key _ h)
  · exact .inr (key _ h)

end Go.Proofs.YtipdiddjhimdcaaGreatDoor

namespace Go.Proofs.YtipdiddjhimdcaaGreatDoor
set_option linter.unusedSimpArgs false
set_option linter.unusedVariables false
open Go.RowKit Go.Sort


set_option maxRecDepth 100000 in
set_option maxHeartbeats 6400000 in
theorem checkUR_c (S U H : ByteArray) (n : Int) (u1 u2 : Value) (F G : List Prm) (hS : S.size ≤ 4294967280) (hH : H.size ≤ 4294967280) (w : World) (h1 : RPrms w u1 F) (h2 : RPrms w u2 G) (hb1 : ∀ p ∈ F, p.name.length ≤ 4294967280 ∧ p.value.length ≤ 4294967280) (hb2 : ∀ p ∈ G, p.name.length ≤ 4294967280 ∧ p.value.length ≤ 4294967280) :
    Calls Tryz.prog 119 #[.agg #[.string S, .string U, .string H, .int .i64 n, u1, u2]] w fun e w' => e = .returned (.int .i64 (checkU ⟨us S, us U, us H, n, F, G⟩)) ∧ Below w.heap.size w w' := by
  have HS := Lib.hid (fun wx => schemeR_c S wx)
  have HH := Lib.hid (fun wx => hostR_c H hH wx)
  have HU1 := Lib.hid h1
  have HU2 := Lib.hid h2
  
  obtain ⟨ao, ac, rfl, hm1, c1⟩ := h1.form
  obtain ⟨bo, bc, rfl, hm2, c2⟩ := h2.form
  have C2 := Lib.hid c2
  have HL1 := Lib.hid (fun wx hx => listR_c' (.slice ao F.length ac) F wx hx hb1)
  have HL2 := Lib.hid (fun wx hx => listR_c' (.slice bo G.length bc) G wx hx hb2)
  unfold maxLen at hm2
  have hcs := checkU_cases S U H n F G
  obtain ⟨C, hC⟩ : ∃ C, C = checkU ⟨us S, us U, us H, n, F, G⟩ := ⟨_, rfl⟩
  rw [← hC] at hcs ⊢
  clear hC c1 c2 h1 h2 hm1 hb1 hb2
  have hB0 : Below w.heap.size w (w.alloc (.cells #[.string S, .string U, .string H, .int .i64 n, .slice ao F.length ac, .slice bo G.length bc] 24)) := (Below.refl _ _).alloc (Nat.le_refl _) _
  have bm0 := Blk.new w 24 #[.string S, .string U, .string H, .int .i64 n, .slice ao F.length ac, .slice bo G.length bc]
  obtain ⟨w0, hw0⟩ : ∃ w0, w0 = w.alloc (.cells #[.string S, .string U, .string H, .int .i64 n, .slice ao F.length ac, .slice bo G.length bc] 24) := ⟨_, rfl⟩
  rw [← hw0] at hB0 bm0
  have HX := Lib.hid (fun (wx : World) (h : Below w0.heap.size w0 wx) => (show Blk wx w.heap.size 24 #[.string S, .string U, .string H, .int .i64 n, .slice ao F.length ac, .slice bo G.length bc] ∧ Below w.heap.size w wx ∧ True ∧ RPrms wx (.slice ao F.length ac) F ∧ RPrms wx (.slice bo G.length bc) G from by
    have hx := hB0.trans (h.mono hB0.size)
    exact ⟨bm0.call h, hx, trivial, HU1.out.below hx (Nat.le_refl _), HU2.out.below hx (Nat.le_refl _)⟩))
  have HW0 := Lib.hid hw0
  have hZ : Below w0.heap.size w0 w0 := Below.refl _ _
  obtain ⟨bm, hBB, hMM, hU1, hU2⟩ := HX.out _ hZ
  obtain ⟨p0, p1, p2, p3, p4, p5⟩ := blk_f6 bm
  clear hw0 bm0 hB0
  rcases hcs with ⟨s1, hC⟩ | ⟨s1, s2, hC⟩ | ⟨s1, s2, s3, hC⟩ | ⟨s1, s2, s3, s4, hC⟩ | ⟨s1, s2, s3, s4, s5, hC⟩ | ⟨s1, s2, s3, s4, s5, s6, hC⟩ | ⟨s1, s2, s3, s4, s5, s6, s7, hC⟩ | ⟨s1, s2, s3, s4, s5, s6, s7, hC⟩
  · rw [s1] at HS
    clear s1
    have HC := Lib.hid hC
    clear hC
    go_enter Tryz.func119, Tryz.ntmps119
    go_wp2_with (first | (go_at_call 124; (try rw [← HW0.out]); refine (HS.out _).mono ?_; rintro e wx ⟨rfl, rfl⟩) | (go_at_call 165; refine (HH.out _).mono ?_; rintro e w1 ⟨rfl, hC1⟩; have hZ := hZ.trans (hC1.mono hZ.size); obtain ⟨bm, hBB, hMM, hU1, hU2⟩ := HX.out _ hZ; obtain ⟨p0, p1, p2, p3, p4, p5⟩ := blk_f6 bm) | (go_at_call 166; (first | ((with_reducible refine (HL1.out _ hU1).mono ?_); rintro e w2 ⟨rfl, hC2⟩) | ((with_reducible refine (HL2.out _ hU2).mono ?_); rintro e w2 ⟨rfl, hC2⟩)); have hZ := hZ.trans (hC2.mono hZ.size); obtain ⟨bm, hBB, hMM, hU1, hU2⟩ := HX.out _ hZ; obtain ⟨p0, p1, p2, p3, p4, p5⟩ := blk_f6 bm))
    go_ret
    exact ⟨ret_int HC.out.symm, hBB⟩
  · rw [s1] at HS
    clear s1
    have HC := Lib.hid hC
    clear hC
    go_enter Tryz.func119, Tryz.ntmps119
    go_wp2_with (first | (go_at_call 124; (try rw [← HW0.out]); refine (HS.out _).mono ?_; rintro e wx ⟨rfl, rfl⟩) | (go_at_call 165; refine (HH.out _).mono ?_; rintro e w1 ⟨rfl, hC1⟩; have hZ := hZ.trans (hC1.mono hZ.size); obtain ⟨bm, hBB, hMM, hU1, hU2⟩ := HX.out _ hZ; obtain ⟨p0, p1, p2, p3, p4, p5⟩ := blk_f6 bm) | (go_at_call 166; (first | ((with_reducible refine (HL1.out _ hU1).mono ?_); rintro e w2 ⟨rfl, hC2⟩) | ((with_reducible refine (HL2.out _ hU2).mono ?_); rintro e w2 ⟨rfl, hC2⟩)); have hZ := hZ.trans (hC2.mono hZ.size); obtain ⟨bm, hBB, hMM, hU1, hU2⟩ := HX.out _ hZ; obtain ⟨p0, p1, p2, p3, p4, p5⟩ := blk_f6 bm))
    go_ret
    exact ⟨ret_int HC.out.symm, hBB⟩
  · rw [s1] at HS
    rw [s3] at HH
    clear s1 s3
    have HC := Lib.hid hC
    clear hC
    go_enter Tryz.func119, Tryz.ntmps119
    go_wp2_with (first | (go_at_call 124; (try rw [← HW0.out]); refine (HS.out _).mono ?_; rintro e wx ⟨rfl, rfl⟩) | (go_at_call 165; refine (HH.out _).mono ?_; rintro e w1 ⟨rfl, hC1⟩; have hZ := hZ.trans (hC1.mono hZ.size); obtain ⟨bm, hBB, hMM, hU1, hU2⟩ := HX.out _ hZ; obtain ⟨p0, p1, p2, p3, p4, p5⟩ := blk_f6 bm) | (go_at_call 166; (first | ((with_reducible refine (HL1.out _ hU1).mono ?_); rintro e w2 ⟨rfl, hC2⟩) | ((with_reducible refine (HL2.out _ hU2).mono ?_); rintro e w2 ⟨rfl, hC2⟩)); have hZ := hZ.trans (hC2.mono hZ.size); obtain ⟨bm, hBB, hMM, hU1, hU2⟩ := HX.out _ hZ; obtain ⟨p0, p1, p2, p3, p4, p5⟩ := blk_f6 bm))
    go_ret
    exact ⟨ret_int HC.out.symm, hBB⟩
  · rw [s1] at HS
    rw [s3] at HH
    have HC := Lib.hid hC
    clear s1 s3 hC
    by_cases n0 : n < 0
    · clear s4
      go_enter Tryz.func119, Tryz.ntmps119
      go_wp2_with (first | (go_at_call 124; (try rw [← HW0.out]); refine (HS.out _).mono ?_; rintro e wx ⟨rfl, rfl⟩) | (go_at_call 165; refine (HH.out _).mono ?_; rintro e w1 ⟨rfl, hC1⟩; have hZ := hZ.trans (hC1.mono hZ.size); obtain ⟨bm, hBB, hMM, hU1, hU2⟩ := HX.out _ hZ; obtain ⟨p0, p1, p2, p3, p4, p5⟩ := blk_f6 bm) | (go_at_call 166; (first | ((with_reducible refine (HL1.out _ hU1).mono ?_); rintro e w2 ⟨rfl, hC2⟩) | ((with_reducible refine (HL2.out _ hU2).mono ?_); rintro e w2 ⟨rfl, hC2⟩)); have hZ := hZ.trans (hC2.mono hZ.size); obtain ⟨bm, hBB, hMM, hU1, hU2⟩ := HX.out _ hZ; obtain ⟨p0, p1, p2, p3, p4, p5⟩ := blk_f6 bm))
      go_ret
      exact ⟨ret_int HC.out.symm, hBB⟩
    · have n1 : 65535 < n := by omega
      clear s4
      go_enter Tryz.func119, Tryz.ntmps119
      go_wp2_with (first | (go_at_call 124; (try rw [← HW0.out]); refine (HS.out _).mono ?_; rintro e wx ⟨rfl, rfl⟩) | (go_at_call 165; refine (HH.out _).mono ?_; rintro e w1 ⟨rfl, hC1⟩; have hZ := hZ.trans (hC1.mono hZ.size); obtain ⟨bm, hBB, hMM, hU1, hU2⟩ := HX.out _ hZ; obtain ⟨p0, p1, p2, p3, p4, p5⟩ := blk_f6 bm) | (go_at_call 166; (first | ((with_reducible refine (HL1.out _ hU1).mono ?_); rintro e w2 ⟨rfl, hC2⟩) | ((with_reducible refine (HL2.out _ hU2).mono ?_); rintro e w2 ⟨rfl, hC2⟩)); have hZ := hZ.trans (hC2.mono hZ.size); obtain ⟨bm, hBB, hMM, hU1, hU2⟩ := HX.out _ hZ; obtain ⟨p0, p1, p2, p3, p4, p5⟩ := blk_f6 bm))
      go_ret
      exact ⟨ret_int HC.out.symm, hBB⟩
  · rw [s1] at HS
    rw [s3] at HH
    rw [s5] at HL1
    clear s1 s3 s5
    have n0 : ¬ n < 0 := by omega
    have n1 : ¬ 65535 < n := by omega
    clear s4
    have HC := Lib.hid hC
    clear hC
    go_enter Tryz.func119, Tryz.ntmps119
    go_wp2_with (first | (go_at_call 124; (try rw [← HW0.out]); refine (HS.out _).mono ?_; rintro e wx ⟨rfl, rfl⟩) | (go_at_call 165; refine (HH.out _).mono ?_; rintro e w1 ⟨rfl, hC1⟩; have hZ := hZ.trans (hC1.mono hZ.size); obtain ⟨bm, hBB, hMM, hU1, hU2⟩ := HX.out _ hZ; obtain ⟨p0, p1, p2, p3, p4, p5⟩ := blk_f6 bm) | (go_at_call 166; (first | ((with_reducible refine (HL1.out _ hU1).mono ?_); rintro e w2 ⟨rfl, hC2⟩) | ((with_reducible refine (HL2.out _ hU2).mono ?_); rintro e w2 ⟨rfl, hC2⟩)); have hZ := hZ.trans (hC2.mono hZ.size); obtain ⟨bm, hBB, hMM, hU1, hU2⟩ := HX.out _ hZ; obtain ⟨p0, p1, p2, p3, p4, p5⟩ := blk_f6 bm))
    go_ret
    exact ⟨ret_int HC.out.symm, hBB⟩
  · rw [s1] at HS
    rw [s3] at HH
    rw [s5] at HL1
    rw [s6] at HL2
    clear s1 s3 s5 s6
    have n0 : ¬ n < 0 := by omega
    have n1 : ¬ 65535 < n := by omega
    clear s4
    have HC := Lib.hid hC
    clear hC
    go_enter Tryz.func119, Tryz.ntmps119
    go_wp2_with (first | (go_at_call 124; (try rw [← HW0.out]); refine (HS.out _).mono ?_; rintro e wx ⟨rfl, rfl⟩) | (go_at_call 165; refine (HH.out _).mono ?_; rintro e w1 ⟨rfl, hC1⟩; have hZ := hZ.trans (hC1.mono hZ.size); obtain ⟨bm, hBB, hMM, hU1, hU2⟩ := HX.out _ hZ; obtain ⟨p0, p1, p2, p3, p4, p5⟩ := blk_f6 bm) | (go_at_call 166; (first | ((with_reducible refine (HL1.out _ hU1).mono ?_); rintro e w2 ⟨rfl, hC2⟩) | ((with_reducible refine (HL2.out _ hU2).mono ?_); rintro e w2 ⟨rfl, hC2⟩)); have hZ := hZ.trans (hC2.mono hZ.size); obtain ⟨bm, hBB, hMM, hU1, hU2⟩ := HX.out _ hZ; obtain ⟨p0, p1, p2, p3, p4, p5⟩ := blk_f6 bm))
    go_ret
    exact ⟨ret_int HC.out.symm, hBB⟩
  all_goals
    rw [s1] at HS
    rw [s3] at HH
    rw [s5] at HL1
    rw [s6] at HL2
    clear s1 s3 s5 s6
    have n0 : ¬ n < 0 := by omega
    have n1 : ¬ 65535 < n := by omega
    clear s4
    have HC := Lib.hid hC
    clear hC
    have HG := Lib.hid s7
    clear s7
    go_enter Tryz.func119, Tryz.ntmps119
    go_wp2_with (first | (go_at_call 124; (try rw [← HW0.out]); refine (HS.out _).mono ?_; rintro e wx ⟨rfl, rfl⟩) | (go_at_call 165; refine (HH.out _).mono ?_; rintro e w1 ⟨rfl, hC1⟩; have hZ := hZ.trans (hC1.mono hZ.size); obtain ⟨bm, hBB, hMM, hU1, hU2⟩ := HX.out _ hZ; obtain ⟨p0, p1, p2, p3, p4, p5⟩ := blk_f6 bm) | (go_at_call 166; (first | ((with_reducible refine (HL1.out _ hU1).mono ?_); rintro e w2 ⟨rfl, hC2⟩) | ((with_reducible refine (HL2.out _ hU2).mono ?_); rintro e w2 ⟨rfl, hC2⟩)); have hZ := hZ.trans (hC2.mono hZ.size); obtain ⟨bm, hBB, hMM, hU1, hU2⟩ := HX.out _ hZ; obtain ⟨p0, p1, p2, p3, p4, p5⟩ := blk_f6 bm))
    go_loopw [3] (fun i wr => ∃ k : Nat, k ≤ G.length ∧ i = .int .i64 k ∧ Below w0.heap.size w0 wr ∧ Hid ((G.take k).all (fun h => h.has) = true)) (fun i _ => G.length - (intOf i).toNat)
    case atStart => exact ⟨0, Nat.zero_le _, rfl, hZ, Lib.hid rfl⟩
    case round =>
      obtain ⟨k, hk, rfl, hZ, HP⟩ := hrel
      obtain ⟨bm, hBB, hMM, hU1, hU2⟩ := HX.out _ hZ
      obtain ⟨p0, p1, p2, p3, p4, p5⟩ := blk_f6 bm
      by_cases hlt : k < G.length
      · obtain ⟨b, off, rfl, hb1, hc1⟩ := C2.out (by omega)
        have x0 : wr.cell? ⟨b, off + k * 3, none⟩ = some (sv G[k].name) := by rw [hBB.cell (p := ⟨b, off + k * 3, none⟩) hb1]; exact (hc1 k hlt).1
        have x1 : wr.cell? ⟨b, off + k * 3 + 1, none⟩ = some (sv G[k].value) := by rw [hBB.cell (p := ⟨b, off + k * 3 + 1, none⟩) hb1]; exact (hc1 k hlt).2.1
        have x2 : wr.cell? ⟨b, off + k * 3 + 2, none⟩ = some (.bool G[k].has) := by rw [hBB.cell (p := ⟨b, off + k * 3 + 2, none⟩) hb1]; exact (hc1 k hlt).2.2
        have k0 : (0 : Int) ≤ (k : Int) := by omega
        have k1 : (k : Int) < (G.length : Int) := by omega
        have HN := Lib.hid (fun (h : G[k].has = true) => (show (G.take (k + 1)).all (fun h => h.has) = true by rw [List.take_succ_eq_append_getElem hlt, List.all_append, HP.out]; simp [h]))
        have HQ := Lib.hid (fun (h : G[k].has = false) => (show (G.all fun h => h.has) = false from by
          rw [← Bool.not_eq_true, List.all_eq_true]; intro ha; have := ha _ (List.getElem_mem hlt); rw [h] at this; cases this))
        unfold sv at x0 x1
        obtain ⟨N, hN⟩ : ∃ N, N = bs G[k].name := ⟨_, rfl⟩
        obtain ⟨V, hV⟩ : ∃ V, V = bs G[k].value := ⟨_, rfl⟩
        rw [← hN] at x0
        rw [← hV] at x1
        obtain ⟨h, hh⟩ : ∃ h, h = G[k].has := ⟨_, rfl⟩
        rw [← hh] at x2 HN HQ
        clear hc1 hb1 hN hV hh HP
        cases h
        · have hq := HQ.out rfl
          rw [HG.out] at hq
          first
            | (exact absurd hq (by decide))
            | (clear hq
               go_wp2
               go_ret
               exact ⟨ret_int HC.out.symm, by first | exact hBB | exact hBB.alloc (by have := hBB.size; omega) _⟩)
        · have HN' := Lib.hid (HN.out rfl)
          go_wp2
          go_roundw
          case rel => exact ⟨k + 1, by omega, by go_num, by first | exact hZ | exact hZ.alloc hZ.size _, HN'⟩
          case measure => simp [intOf]; omega
      · have hq := HP.out
        rw [List.take_of_length_le (by omega), HG.out] at hq
        first
          | (exact absurd hq (by decide))
          | (clear hq
             go_wp2
             go_ret
             exact ⟨ret_int HC.out.symm, hBB⟩)

end Go.Proofs.YtipdiddjhimdcaaGreatDoor

namespace Go.Proofs.YtipdiddjhimdcaaGreatDoor
set_option linter.unusedSimpArgs false
set_option linter.unusedVariables false
open Go.RowKit Go.Sort

theorem hasb_cut (c : UInt8) : ∀ l : List UInt8, hasb l c = (cutb c l).2.2
  | [] => rfl
  | b :: l => by
    unfold hasb
    rw [List.any_cons, cutb]
    by_cases h : b.toNat = c.toNat
    · rw [if_pos h]; simp [h]
    · rw [if_neg h, show (b.toNat == c.toNat) = false by simpa using h, Bool.false_or]
      exact hasb_cut c l

set_option maxRecDepth 100000 in
set_option maxHeartbeats 12800000 in
theorem parseUR_k (s : ByteArray) (hs : s.size ≤ 4294967280) (w : World) (hok0 : (parseU (us s)).2 = 0) (hat : (cutb 64 (cutb 58 (us s)).2.1).2.2 = true) (hnq : (cutb 63 (cutb 64 (cutb 58 (us s)).2.1).2.1).2.2 = false) :
    Calls Tryz.prog 68 #[.string s] w (UriPost (parseU (us s)) w) := by
  have HCT := Lib.hid (fun wx => cutR_c s (by omega) 58 wx)
  rw [show (((58 : UInt8).toNat : Nat) : Int) = 58 from rfl] at HCT
  have hbad := parseU_bad (us s)
  have hgo := parseU_go (us s)
  have hcl := cutb_le 58 (us s)
  rw [length_us] at hcl
  obtain ⟨R, hR⟩ : ∃ R, R = parseU (us s) := ⟨_, rfl⟩
  rw [← hR] at hbad hgo hok0 ⊢
  have HOK := Lib.hid hok0
  clear hok0
  obtain ⟨q, hq⟩ : ∃ q, q = cutb 58 (us s) := ⟨_, rfl⟩
  rw [← hq] at HCT hbad hgo hcl hat hnq
  clear hR hq
  obtain ⟨hd, rest, ok⟩ := q
  dsimp only at HCT hbad hgo hcl hat hnq
  have HL := Lib.hid (fun wx => lowerR_c (bs hd) (by rw [size_bs]; omega) wx)
  rw [us_bs] at HL
  have HSC := Lib.hid (fun wx => schemeR_c (bs (lowr hd)) wx)
  rw [us_bs] at HSC
  have scl : (lowr hd).length ≤ 4294967280 := by rw [lowr_length]; omega
  obtain ⟨sc, hsc⟩ : ∃ x, x = lowr hd := ⟨_, rfl⟩
  rw [← hsc] at HL HSC hbad hgo scl
  obtain ⟨SC, hSC⟩ : ∃ x, x = bs sc := ⟨_, rfl⟩
  rw [← hSC] at HL HSC
  have HSCu := Lib.hid (show us SC = sc by rw [hSC, us_bs])
  have hSCl : SC.size ≤ 4294967280 := by rw [hSC, size_bs]; exact scl
  clear hsc hSC scl
  have hZ0 : Below w.heap.size w ((w.alloc (.cells #[.string ⟨#[]⟩, .string ⟨#[]⟩, .string ⟨#[]⟩, .int .i64 0, .slice none 0 0, .slice none 0 0] 24)).alloc (.cells #[.string ⟨#[]⟩, .string ⟨#[]⟩, .string ⟨#[]⟩, .int .i64 0, .slice none 0 0, .slice none 0 0] 24)) := ((Below.refl _ _).alloc (Nat.le_refl _) _).alloc (by rw [World.size_alloc]; omega) _
  have bmR0 : Blk ((w.alloc (.cells #[.string ⟨#[]⟩, .string ⟨#[]⟩, .string ⟨#[]⟩, .int .i64 0, .slice none 0 0, .slice none 0 0] 24)).alloc (.cells #[.string ⟨#[]⟩, .string ⟨#[]⟩, .string ⟨#[]⟩, .int .i64 0, .slice none 0 0, .slice none 0 0] 24)) w.heap.size 24 #[.string ⟨#[]⟩, .string ⟨#[]⟩, .string ⟨#[]⟩, .int .i64 0, .slice none 0 0, .slice none 0 0] := (Blk.new w 24 #[.string ⟨#[]⟩, .string ⟨#[]⟩, .string ⟨#[]⟩, .int .i64 0, .slice none 0 0, .slice none 0 0]).alloc _
  have bmN0 : Blk ((w.alloc (.cells #[.string ⟨#[]⟩, .string ⟨#[]⟩, .string ⟨#[]⟩, .int .i64 0, .slice none 0 0, .slice none 0 0] 24)).alloc (.cells #[.string ⟨#[]⟩, .string ⟨#[]⟩, .string ⟨#[]⟩, .int .i64 0, .slice none 0 0, .slice none 0 0] 24)) (w.heap.size + 1) 24 #[.string ⟨#[]⟩, .string ⟨#[]⟩, .string ⟨#[]⟩, .int .i64 0, .slice none 0 0, .slice none 0 0] := by
    have := Blk.new (w.alloc (.cells #[.string ⟨#[]⟩, .string ⟨#[]⟩, .string ⟨#[]⟩, .int .i64 0, .slice none 0 0, .slice none 0 0] 24)) 24 #[.string ⟨#[]⟩, .string ⟨#[]⟩, .string ⟨#[]⟩, .int .i64 0, .slice none 0 0, .slice none 0 0]
    rwa [World.size_alloc] at this
  have hs2 : ((w.alloc (.cells #[.string ⟨#[]⟩, .string ⟨#[]⟩, .string ⟨#[]⟩, .int .i64 0, .slice none 0 0, .slice none 0 0] 24)).alloc (.cells #[.string ⟨#[]⟩, .string ⟨#[]⟩, .string ⟨#[]⟩, .int .i64 0, .slice none 0 0, .slice none 0 0] 24)).heap.size = w.heap.size + 2 := by rw [World.size_alloc, World.size_alloc]
  obtain ⟨w0, hw0⟩ : ∃ w0, w0 = (w.alloc (.cells #[.string ⟨#[]⟩, .string ⟨#[]⟩, .string ⟨#[]⟩, .int .i64 0, .slice none 0 0, .slice none 0 0] 24)).alloc (.cells #[.string ⟨#[]⟩, .string ⟨#[]⟩, .string ⟨#[]⟩, .int .i64 0, .slice none 0 0, .slice none 0 0] 24) := ⟨_, rfl⟩
  rw [← hw0] at hZ0 bmR0 bmN0 hs2
  have HX := Lib.hid (fun (wx : World) (h : Below w0.heap.size w0 wx) => (show Blk wx w.heap.size 24 #[.string ⟨#[]⟩, .string ⟨#[]⟩, .string ⟨#[]⟩, .int .i64 0, .slice none 0 0, .slice none 0 0] ∧ Blk wx (w.heap.size + 1) 24 #[.string ⟨#[]⟩, .string ⟨#[]⟩, .string ⟨#[]⟩, .int .i64 0, .slice none 0 0, .slice none 0 0] ∧ Below w.heap.size w wx from ⟨bmR0.call h, bmN0.call h, hZ0.trans (h.mono hZ0.size)⟩))
  have HW0 := Lib.hid hw0
  have HS2 := Lib.hid hs2
  have hZ : Below w0.heap.size w0 w0 := Below.refl _ _
  obtain ⟨bmR, bmN, hBB⟩ := HX.out _ hZ
  obtain ⟨r0, r1, r2, r3, r4, r5, g0, g1, g2, g3, g4, g5, zR⟩ := blk_h6 bmR
  obtain ⟨m0, m1, m2, m3, m4, m5, _, _, _, _, _, _, zN⟩ := blk_h6 bmN
  clear hw0 hZ0 bmR0 bmN0 hs2
  by_cases hok : ok = false ∨ schemeS sc = false
  case pos => exfalso; have h := HOK.out; rw [hbad hok] at h; revert h; decide
  obtain rfl : ok = true := by cases ok; exact absurd (.inl rfl) hok; rfl
  have hs1 : schemeS sc = true := by cases h : schemeS sc; exact absurd (.inr h) hok; rfl
  have HRg := Lib.hid (hgo rfl hs1)
  rw [hs1] at HSC
  clear hbad hgo hok
  have HCT2 := Lib.hid (fun wx => cutR_c (bs rest) (by rw [size_bs]; omega) 64 wx)
  rw [show (((64 : UInt8).toNat : Nat) : Int) = 64 from rfl] at HCT2
  have HHA := Lib.hid (fun wx => has3_c (bs rest) (by rw [size_bs]; omega) 64 wx)
  rw [show (((64 : UInt8).toNat : Nat) : Int) = 64 from rfl] at HHA
  rw [us_bs] at HCT2 HHA
  rw [hasb_cut] at HHA
  have hcl2 := cutb_le 64 rest
  have hc2 := parseU2_cases sc rest
  rw [← HRg.out] at hc2
  clear HRg
  obtain ⟨q, hq⟩ : ∃ q, q = cutb 64 rest := ⟨_, rfl⟩
  rw [← hq] at HCT2 HHA hc2 hcl2 hat hnq
  clear hq
  obtain ⟨ua, ub, has⟩ := q
  dsimp only at HCT2 HHA hc2 hcl2 hat hnq
  obtain ⟨RS, hRS⟩ : ∃ x, x = bs rest := ⟨_, rfl⟩
  rw [← hRS] at HCT HCT2 HHA
  have hRSu : us RS = rest := by rw [hRS, us_bs]
  have hRSl : RS.size ≤ 4294967280 := by rw [hRS, size_bs]; omega
  have HPL := Lib.hid (fun wx => writtenR_c (bs ua) ⟨#[38, 61, 43, 36, 44, 59, 63, 47]⟩ (by rw [size_bs]; omega) (by decide) wx)
  rw [us_bs, show us ⟨#[38, 61, 43, 36, 44, 59, 63, 47]⟩ = kUsers from rfl] at HPL
  have hul := optB_len ua kUsers
  obtain ⟨uu, huu⟩ : ∃ x, x = optB (writtenS ua kUsers) := ⟨_, rfl⟩
  rw [← huu] at HPL hc2 hul
  clear huu hRS
  obtain ⟨un, uok⟩ := uu
  dsimp only at HPL hc2 hul
  obtain ⟨UN, hUN⟩ : ∃ x, x = bs un := ⟨_, rfl⟩
  rw [← hUN] at HPL
  have HUNu := Lib.hid (show us UN = un by rw [hUN, us_bs])
  have hUNl : UN.size = un.length := by rw [hUN, size_bs]
  have hun0 : un = [] ↔ UN.size = 0 := by rw [hUNl, List.length_eq_zero_iff]
  rw [hun0, ← hUNl] at hc2
  have HC2 := Lib.hid hc2
  have HUNl := Lib.hid hUNl
  have HRSu := Lib.hid hRSu
  clear hUN hun0 hc2 hUNl hRSu
  go_enter Tryz.func68, Tryz.ntmps68
  go_upto_region 7 with (first | (go_at_call 122; (try rw [← HW0.out]); ((with_reducible refine (HCT.out _).mono ?_); rintro e w1 ⟨rfl, hD⟩); have hZ := hZ.trans (hD.below (B := w0.heap.size)); obtain ⟨bmR, bmN, hBB⟩ := HX.out _ hZ; obtain ⟨r0, r1, r2, r3, r4, r5, g0, g1, g2, g3, g4, g5, zR⟩ := blk_h6 bmR; obtain ⟨m0, m1, m2, m3, m4, m5, _, _, _, _, _, _, zN⟩ := blk_h6 bmN) | (go_at_call 123; ((with_reducible refine (HL.out _).mono ?_); rintro e w2 ⟨rfl, hC2⟩); have hZ := hZ.trans (hC2.mono hZ.size); obtain ⟨bmR, bmN, hBB⟩ := HX.out _ hZ; obtain ⟨r0, r1, r2, r3, r4, r5, g0, g1, g2, g3, g4, g5, zR⟩ := blk_h6 bmR; obtain ⟨m0, m1, m2, m3, m4, m5, _, _, _, _, _, _, zN⟩ := blk_h6 bmN) | (go_at_call 124; ((with_reducible refine (HSC.out _).mono ?_); rintro e wx ⟨rfl, rfl⟩)))
  clear HCT HL HSC
  rcases HC2.out with ⟨rfl, hR⟩ | ⟨rfl, rfl, hR⟩ | ⟨rfl, rfl, hb, hR⟩ | ⟨rfl, rfl, hb, hR⟩
  · cases hat
  · exfalso; have h := HOK.out; rw [hR] at h; revert h; decide
  · exfalso; have h := HOK.out; rw [hR] at h; revert h; decide
  · have hb0 : UN.size ≠ 0 := fun h => hb (.inl h)
    have hb1 : ¬ 64 < UN.size := fun h => hb (.inr h)
    clear hb
    have pE := ne_empty hb0
    have pF := isEmpty_f hb0
    obtain ⟨TT, hTT⟩ : ∃ x, x = bs ub := ⟨_, rfl⟩
    rw [← hTT] at HCT2
    have hTTl : TT.size ≤ 4294967280 := by rw [hTT, size_bs]; omega
    have HTTu := Lib.hid (show us TT = ub by rw [hTT, us_bs])
    clear hTT
    go_upto_region 13 with (first | (go_at_call 125; ((with_reducible refine (HHA.out _).mono ?_); rintro e wx ⟨rfl, rfl⟩)) | (go_at_call 122; ((with_reducible refine (HCT2.out _).mono ?_); rintro e w4 ⟨rfl, hD⟩); have hZ := hZ.trans (hD.below (B := w0.heap.size)); obtain ⟨bmR, bmN, hBB⟩ := HX.out _ hZ; obtain ⟨r0, r1, r2, r3, r4, r5, g0, g1, g2, g3, g4, g5, zR⟩ := blk_h6 bmR; obtain ⟨m0, m1, m2, m3, m4, m5, _, _, _, _, _, _, zN⟩ := blk_h6 bmN) | (go_at_call 126; ((with_reducible refine (HPL.out _).mono ?_); rintro e w5 ⟨rfl, hC5⟩); have hZ := hZ.trans (hC5.mono hZ.size); obtain ⟨bmR, bmN, hBB⟩ := HX.out _ hZ; obtain ⟨r0, r1, r2, r3, r4, r5, g0, g1, g2, g3, g4, g5, zR⟩ := blk_h6 bmR; obtain ⟨m0, m1, m2, m3, m4, m5, _, _, _, _, _, _, zN⟩ := blk_h6 bmN))
    have HCT3 := Lib.hid (fun wx => cutR_c TT (by omega) 63 wx)
    rw [show (((63 : UInt8).toNat : Nat) : Int) = 63 from rfl] at HCT3
    rw [HTTu.out] at HCT3
    have hcl3 := cutb_le 63 ub
    obtain ⟨x, xs, hxs⟩ : ∃ x xs, splitc 59 (cutb 63 ub).1 = x :: xs := ⟨_, _, splitc_cut 59 _⟩
    have hc3 := parseU3_cases sc un ub x xs hxs
    rw [← hR] at hc3
    have hbx : ∀ p ∈ x :: xs, p.length ≤ 4294967280 := by rw [← hxs]; intro p hp; have := splitc_bd 59 _ p hp; omega
    have hln : (x :: xs).length ≤ 4294967281 := by rw [← hxs]; have := splitc_len 59 (cutb 63 ub).1; omega
    obtain ⟨q, hq⟩ : ∃ q, q = cutb 63 ub := ⟨_, rfl⟩
    rw [← hq] at HCT3 hcl3 hc3 hxs hnq
    clear hq hR
    obtain ⟨fr, bk, asked⟩ := q
    dsimp only at HCT3 hcl3 hc3 hxs hnq
    have HSP := Lib.hid (fun wx => splitR_c (bs fr) (by rw [size_bs]; omega) 59 wx)
    rw [show (((59 : UInt8).toNat : Nat) : Int) = 59 from rfl] at HSP
    rw [us_bs, hxs] at HSP
    have HSP2 := Lib.hid (fun wx => splitR_c (bs bk) (by rw [size_bs]; omega) 38 wx)
    rw [show (((38 : UInt8).toNat : Nat) : Int) = 38 from rfl] at HSP2
    rw [us_bs] at HSP2
    have hxl := hbx x (List.mem_cons_self ..)
    have HWH := Lib.hid (fun wx => whereR_c (bs x) (by rw [size_bs]; omega) wx)
    rw [us_bs] at HWH
    have hwo := where_ok x
    have HRD1 := Lib.hid (fun wx v hv => readR_c v xs ⟨#[91, 93, 47, 58, 38, 43, 36]⟩ (by decide) wx hv (fun p hp => hbx p (List.mem_cons_of_mem _ hp)) (by rw [List.length_cons] at hln; omega))
    rw [show us ⟨#[91, 93, 47, 58, 38, 43, 36]⟩ = kParams from rfl] at HRD1
    have HRD2 := Lib.hid (fun wx v hv => readR_c v (splitc 38 bk) ⟨#[91, 93, 47, 63, 58, 43, 36]⟩ (by decide) wx hv (fun p hp => by have := splitc_bd 38 _ p hp; omega) (by have := splitc_len 38 bk; omega))
    rw [show us ⟨#[91, 93, 47, 63, 58, 43, 36]⟩ = kHeaders from rfl] at HRD2
    have hpb1 := readP_bd kParams xs 4294967280 (fun p hp => hbx p (List.mem_cons_of_mem _ hp))
    have hpb2 := readP_bd kHeaders (splitc 38 bk) 4294967280 (fun p hp => by have := splitc_bd 38 _ p hp; omega)
    unfold ReadPost at HRD1 HRD2
    obtain ⟨W, hW⟩ : ∃ W, W = whereS x := ⟨_, rfl⟩
    obtain ⟨P1, hP1⟩ : ∃ W, W = optP (readGo kParams xs) := ⟨_, rfl⟩
    obtain ⟨P2, hP2⟩ : ∃ W, W = optP (readGo kHeaders (splitc 38 bk)) := ⟨_, rfl⟩
    rw [← hW] at HWH hc3 hwo
    rw [← hP1] at HRD1 hc3 hpb1
    rw [← hP2] at HRD2 hc3 hpb2
    clear hW hP1 hP2 hxs hln hbx hcl3 hxl
    obtain ⟨⟨hl, p⟩, we⟩ := W
    obtain ⟨PL, pok⟩ := P1
    obtain ⟨HL2, hok2⟩ := P2
    dsimp only at HWH hc3 hwo HRD1 HRD2 hpb1 hpb2
    have HPB1 := Lib.hid hpb1
    have HPB2 := Lib.hid hpb2
    obtain ⟨HH, hHH⟩ : ∃ H, H = bs hl := ⟨_, rfl⟩
    rw [← hHH] at HWH
    have HHHu := Lib.hid (show us HH = hl by rw [hHH, us_bs])
    have HHHl := Lib.hid (show HH.size = hl.length by rw [hHH, size_bs])
    clear hHH hpb1 hpb2
    have HWO := Lib.hid hwo
    clear hwo
    rcases hc3 with ⟨hw, hR⟩ | ⟨rfl, rfl, hR⟩ | ⟨rfl, rfl, rfl, rfl, hR⟩ | ⟨rfl, rfl, rfl, hR⟩ | ⟨rfl, rfl, rfl, rfl, hR⟩
    · exact absurd (by have h := HOK.out; rw [hR] at h; exact h) hw
    · exfalso; have h := HOK.out; rw [hR] at h; revert h; decide
    · exfalso; have h := HOK.out; rw [hR] at h; revert h; decide
    · have HSV := Lib.hid (show sv sc = .string SC by rw [← HSCu.out]; simp [sv])
      have HUV := Lib.hid (show sv un = .string UN by first | rfl | (have h := HUNu.out; rw [← h]; simp [sv]))
      have HHV := Lib.hid (show sv hl = .string HH by rw [← HHHu.out]; simp [sv])
      have HU0 := Lib.hid (fun (wx : World) => (show RPrms wx (.slice none 0 0) [] from .inl ⟨⟨_, _, rfl⟩, rfl⟩))
      obtain ⟨w1', w2', w3'⟩ := HWO.out rfl
      have hH64 := (host_low _ w1').2.2
      rw [← HHHl.out] at hH64
      have HCK := Lib.hid (fun wx u1 u2 h1 h2 => checkUR_c SC UN HH p u1 u2 PL [] hSCl (by omega) wx h1 h2 HPB1.out (fun p hp => by cases hp))
      rw [HSCu.out, HUNu.out, HHHu.out] at HCK
      obtain ⟨C, hC⟩ : ∃ C, C = checkU ⟨sc, un, hl, p, PL, []⟩ := ⟨_, rfl⟩
      unfold endU at hR
      rw [← hC] at HCK hR
      clear hC w1' w2' w3' hH64
      go_upto_region 26 with (first | (go_at_call 122; ((with_reducible refine (HCT3.out _).mono ?_); rintro e w6 ⟨rfl, hD⟩); have hZ := hZ.trans (hD.below (B := w0.heap.size)); obtain ⟨bmR, bmN, hBB⟩ := HX.out _ hZ; obtain ⟨r0, r1, r2, r3, r4, r5, g0, g1, g2, g3, g4, g5, zR⟩ := blk_h6 bmR; obtain ⟨m0, m1, m2, m3, m4, m5, _, _, _, _, _, _, zN⟩ := blk_h6 bmN) | (go_at_call 127; ((with_reducible refine (HSP.out _).mono ?_); rintro e w7 ⟨v, rfl, hv, hC7⟩); have hZ := hZ.trans (hC7.mono hZ.size); obtain ⟨bmR, bmN, hBB⟩ := HX.out _ hZ; obtain ⟨r0, r1, r2, r3, r4, r5, g0, g1, g2, g3, g4, g5, zR⟩ := blk_h6 bmR; obtain ⟨m0, m1, m2, m3, m4, m5, _, _, _, _, _, _, zN⟩ := blk_h6 bmN; have HV := Lib.hid hv; obtain ⟨ao, cap, rfl, hm1, c1⟩ := hv.form; obtain ⟨b, off, rfl, hb1, hc1⟩ := c1 (by simp); have x0 := hc1 0 (by simp); rw [Nat.add_zero] at x0; have k1 : (0 : Int) < ((x :: xs).length : Int) := (by simp); clear hc1 c1 hv; unfold maxLen at hm1) | (go_at_call 128; ((with_reducible refine (HWH.out _).mono ?_); rintro e w8 ⟨rfl, hC8⟩); have hZ := hZ.trans (hC8.mono hZ.size); obtain ⟨bmR, bmN, hBB⟩ := HX.out _ hZ; obtain ⟨r0, r1, r2, r3, r4, r5, g0, g1, g2, g3, g4, g5, zR⟩ := blk_h6 bmR; obtain ⟨m0, m1, m2, m3, m4, m5, _, _, _, _, _, _, zN⟩ := blk_h6 bmN; have HV := Lib.hid (HV.out.below hC8 (Nat.le_refl _))) | (go_at_call 129; ((with_reducible refine (HRD1.out _ _ (by first | exact HV.out.tailB | exact HV.out.tailA (by first | assumption | omega))).mono ?_); rintro e w9 ⟨u1, rfl, hu1, hF1, hC9⟩); have hF1 := hF1.mono (show w.heap.size + 2 ≤ _ from HS2.out ▸ hZ.size); have hZ := hZ.trans (hC9.mono hZ.size); obtain ⟨bmR, bmN, hBB⟩ := HX.out _ hZ; obtain ⟨r0, r1, r2, r3, r4, r5, g0, g1, g2, g3, g4, g5, zR⟩ := blk_h6 bmR; obtain ⟨m0, m1, m2, m3, m4, m5, _, _, _, _, _, _, zN⟩ := blk_h6 bmN; obtain ⟨ao1, cp1, rfl, _, _⟩ := hu1.form; have HU1 := Lib.hid hu1; have HF1 := Lib.hid hF1; clear hu1 hF1) | (go_at_call 127; ((with_reducible refine (HSP2.out _).mono ?_); rintro e w10 ⟨v2, rfl, hv2, hC10⟩); have HU1 := Lib.hid (HU1.out.below hC10 (Nat.le_refl _)); have hZ := hZ.trans (hC10.mono hZ.size); obtain ⟨bmR, bmN, hBB⟩ := HX.out _ hZ; obtain ⟨r0, r1, r2, r3, r4, r5, g0, g1, g2, g3, g4, g5, zR⟩ := blk_h6 bmR; obtain ⟨m0, m1, m2, m3, m4, m5, _, _, _, _, _, _, zN⟩ := blk_h6 bmN) | (go_at_call 129; ((with_reducible refine (HRD2.out _ _ hv2).mono ?_); rintro e w11 ⟨u2, rfl, hu2, hF2, hC11⟩); have hF2 := hF2.mono (show w.heap.size + 2 ≤ _ from HS2.out ▸ hZ.size); have HU1 := Lib.hid (HU1.out.below hC11 (Nat.le_refl _)); have hZ := hZ.trans (hC11.mono hZ.size); obtain ⟨bmR, bmN, hBB⟩ := HX.out _ hZ; obtain ⟨r0, r1, r2, r3, r4, r5, g0, g1, g2, g3, g4, g5, zR⟩ := blk_h6 bmR; obtain ⟨m0, m1, m2, m3, m4, m5, _, _, _, _, _, _, zN⟩ := blk_h6 bmN; obtain ⟨ao2, cp2, rfl, _, _⟩ := hu2.form; have HU2 := Lib.hid hu2; have HF2 := Lib.hid hF2; clear hu2 hF2))
      all_goals
        have hA := hZ.alloc hZ.size (.cells #[.string SC, .string UN, .string HH, .int .i64 p, .slice ao1 PL.length cp1, (.slice none 0 0)] 24)
        have bx := Blk.new w9 24 #[.string SC, .string UN, .string HH, .int .i64 p, .slice ao1 PL.length cp1, (.slice none 0 0)]
        have ha1 := HU1.out.below ((Below.refl w9.heap.size w9).alloc (Nat.le_refl _) (.cells #[.string SC, .string UN, .string HH, .int .i64 p, .slice ao1 PL.length cp1, (.slice none 0 0)] 24)) (Nat.le_refl _)
        have ha2 := (HU0.out w9).below ((Below.refl w9.heap.size w9).alloc (Nat.le_refl _) (.cells #[.string SC, .string UN, .string HH, .int .i64 p, .slice ao1 PL.length cp1, (.slice none 0 0)] 24)) (Nat.le_refl _)
        clear r0 r1 r2 r3 r4 r5 g0 g1 g2 g3 g4 g5 m0 m1 m2 m3 m4 m5
        obtain ⟨wu, hwu⟩ : ∃ x, x = w9.alloc (.cells #[.string SC, .string UN, .string HH, .int .i64 p, .slice ao1 PL.length cp1, (.slice none 0 0)] 24) := ⟨_, rfl⟩
        rw [← hwu] at hA bx ha1 ha2
        have HWU := Lib.hid hwu
        clear hwu
        have HA1 := Lib.hid ha1
        have HA2 := Lib.hid ha2
        clear ha1 ha2
        have zU : w9.heap.size < wu.heap.size := bx.lt
        have HZL := Lib.hid (hZ.size : w0.heap.size ≤ w9.heap.size)
        have hZ := hA
        obtain ⟨bmR, bmN, hBB⟩ := HX.out _ hZ
        obtain ⟨r0, r1, r2, r3, r4, r5, g0, g1, g2, g3, g4, g5, zR⟩ := blk_h6 bmR
        obtain ⟨m0, m1, m2, m3, m4, m5, _, _, _, _, _, _, zN⟩ := blk_h6 bmN
        obtain ⟨y0, y1, y2, y3, y4, y5⟩ := blk_f6 bx
        by_cases hc0 : C = 0
        · subst hc0
          rw [if_pos rfl] at hR
          have HR := Lib.hid hR
          clear hR
          go_wp2_with (go_at_call 119; (try rw [← HWU.out]); ((with_reducible refine (HCK.out _ _ _ HA1.out HA2.out).mono ?_); rintro e w12 ⟨rfl, hC12⟩); have bx := bx.call hC12; have HA1 := Lib.hid (HA1.out.below hC12 (Nat.le_refl _)); have HA2 := Lib.hid (HA2.out.below hC12 (Nat.le_refl _)); have zU := Nat.lt_of_lt_of_le zU hC12.size; have hZ := hZ.trans (hC12.mono hZ.size); obtain ⟨bmR, bmN, hBB⟩ := HX.out _ hZ; obtain ⟨r0, r1, r2, r3, r4, r5, g0, g1, g2, g3, g4, g5, zR⟩ := blk_h6 bmR; obtain ⟨m0, m1, m2, m3, m4, m5, _, _, _, _, _, _, zN⟩ := blk_h6 bmN; obtain ⟨y0, y1, y2, y3, y4, y5⟩ := blk_f6 bx)
          refine bodyPost_ret (v := .tuple #[.agg #[.string SC, .string UN, .string HH, .int .i64 p, .slice ao1 PL.length cp1, (.slice none 0 0)], .int .i64 0]) (by simp [results, Tryz.results68, go_sem, r0, r1, r2, r3, r4, r5]) rfl ?_
          exact ⟨_, _, by (rw [HR.out]; show _ = Ending.returned (.tuple #[.agg #[sv sc, sv un, sv hl, .int .i64 p, _, _], .int .i64 0]); rw [HSV.out, HUV.out, HHV.out]), (by rw [HR.out]; exact (RPrms.set (RPrms.set (RPrms.set (RPrms.set (RPrms.set (RPrms.set HA1.out HF1.out (p := ⟨w.heap.size, 0, none⟩) (show w.heap.size < w.heap.size + 2 by omega) _) HF1.out (p := ⟨w.heap.size, 1, none⟩) (show w.heap.size < w.heap.size + 2 by omega) _) HF1.out (p := ⟨w.heap.size, 2, none⟩) (show w.heap.size < w.heap.size + 2 by omega) _) HF1.out (p := ⟨w.heap.size, 3, none⟩) (show w.heap.size < w.heap.size + 2 by omega) _) HF1.out (p := ⟨w.heap.size, 4, none⟩) (show w.heap.size < w.heap.size + 2 by omega) _) HF1.out (p := ⟨w.heap.size, 5, none⟩) (show w.heap.size < w.heap.size + 2 by omega) _)), (by rw [HR.out]; exact .inl ⟨⟨_, _, rfl⟩, rfl⟩), HF1.out.mono (by omega), Fresh.nil _ _ _, ((((((hBB.setCell (Nat.le_refl _) _).setCell (Nat.le_refl _) _).setCell (Nat.le_refl _) _).setCell (Nat.le_refl _) _).setCell (Nat.le_refl _) _).setCell (Nat.le_refl _) _)⟩
        · rw [if_neg hc0] at hR
          exact absurd (by have h := HOK.out; rw [hR] at h; exact h) hc0
    · cases hnq

end Go.Proofs.YtipdiddjhimdcaaGreatDoor

