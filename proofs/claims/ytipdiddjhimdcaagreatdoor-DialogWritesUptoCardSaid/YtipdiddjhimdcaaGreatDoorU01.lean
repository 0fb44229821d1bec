/- Contracts of Go functions, and plain laws. No condition but those told. -/
import Derived.Test.YtipdiddjhimdcaaGreatDoorNt
import Derived.Lib.QuietBelow
import Derived.BigQuiet
set_option linter.unusedSimpArgs false
set_option linter.unusedVariables false
set_option maxRecDepth 100000
namespace Go.Proofs.YtipdiddjhimdcaaGreatDoor
section
open Go.RowKit
theorem sixt_get {P : Program} {ty : TypeId} (hty : P.underlying ty = some .string) (c : UInt8) (wx : World) :
  (Instr.index ty (.string ⟨#[48, 49, 50, 51, 52, 53, 54, 55, 56, 57, 65, 66, 67, 68, 69, 70]⟩) (.int .i64 ((c.toNat : Int) / 16))).run P wx = .ok (.int .u8 (hexd (c.toNat / 16)).toNat) wx ∧
  (Instr.index ty (.string ⟨#[48, 49, 50, 51, 52, 53, 54, 55, 56, 57, 65, 66, 67, 68, 69, 70]⟩) (.int .i64 ((c.toNat : Int) % 16))).run P wx = .ok (.int .u8 (hexd (c.toNat % 16)).toNat) wx :=
 ⟨sixt_run hty .i64 (c.toNat / 16) (by have := c.toNat_lt; omega) (by omega) wx, sixt_run hty .i64 (c.toNat % 16) (by omega) (by omega) wx⟩
set_option maxHeartbeats 3200000 in
theorem escapeR_c (s t : ByteArray) (hs : s.size ≤ 35184372088832) (hkt : t.size ≤ 9223372036854775807) (w : World) :
  Calls Tryz.prog 135 #[.string s, .string t] w fun e w' => e = .returned (.string (bs (escape (us s) (us t)))) ∧ Below w.heap.size w w' := by
 go_enter Tryz.func135, Tryz.ntmps135
 go_wp2
 go_loopw [5, 6] (fun v i wr => ∃ k : Nat, k ≤ s.size ∧ i = .int .i64 k ∧ Byt wr w.heap.size 5 v (((us s).take k).flatMap (ebyte (us t))) ∧ Below w.heap.size w wr) (fun _ i _ => s.size - (intOf i).toNat)
 case atStart => exact ⟨0, Nat.zero_le _, rfl, Byt.nil _ _ _, Below.refl _ _⟩
 case round =>
  obtain ⟨k, hk, rfl, hown, hB⟩ := hrel
  have HL := κ (flat_bd s (ebyte (us t)) 3 k (ebyte_len (us t)) hk)
  by_cases hlt : k < s.size
  ·have ht := κ (flat_take s (ebyte (us t)) k hlt)
   have hcl := s[k].toNat_lt
   have i1 := fun wx => (sixt_get (P := Tryz.prog) Tryz.underlying9 s[k] wx).1
   have i2 := fun wx => (sixt_get (P := Tryz.prog) Tryz.underlying9 s[k] wx).2
   rcases ebyte_cases (us t) s[k] with ⟨hp, h1, hE⟩ | ⟨hp, h1, h2, hE⟩ | ⟨hp, h1, h2, hE⟩ | ⟨hp, hE⟩
   ·have HE := κ hE
    have h1' := testc16 _ _ h1
    clear h1 hE i1 i2
    go_wp2_with (first | (go_at_call 162; refine (classR_c _ _).mono ?_; rintro e w' ⟨rfl, rfl⟩) | (at_builtin; refine wpList_appB1 s[k] rfl rfl rfl Tryz.underlying140 infoB rfl rfl hown hB (ρ _) ?_ ?_; (focus (have := HL.out; omega)); intro v1 w1 ho1 hb1))
    go_roundw
    case rel => exact ⟨k + 1, by omega, by go_num, ho1.cast (by rw [ht.out, HE.out]), hb1⟩
    case measure => simp [intOf]; omega
   ·have HE := κ hE
    have h1' := testc16 _ _ h1
    clear h1 hE i1 i2
    go_wp2_with (first | (go_at_call 162; refine (classR_c _ _).mono ?_; rintro e w' ⟨rfl, rfl⟩) | (go_at_call 174; refine (has_c t hkt _ _).mono ?_; rintro e w' ⟨rfl, rfl⟩) | (at_builtin; refine wpList_appB1 s[k] rfl rfl rfl Tryz.underlying140 infoB rfl rfl hown hB (ρ _) ?_ ?_; (focus (have := HL.out; omega)); intro v1 w1 ho1 hb1))
    go_roundw
    case rel => exact ⟨k + 1, by omega, by go_num, ho1.cast (by rw [ht.out, HE.out]), hb1⟩
    case measure => simp [intOf]; omega
   ·have HE := κ hE
    have h1' := testc16 _ _ h1
    clear h1 hE
    go_wp2_with (first | (go_at_call 162; refine (classR_c _ _).mono ?_; rintro e w' ⟨rfl, rfl⟩) | (go_at_call 174; refine (has_c t hkt _ _).mono ?_; rintro e w' ⟨rfl, rfl⟩) | (at_builtin; refine wpList_appB1 37 rfl rfl rfl Tryz.underlying140 infoB rfl rfl hown hB (ρ _) ?_ ?_; (focus (have := HL.out; omega)); intro v1 w1 ho1 hb1) | (at_builtin; refine wpList_appB1 (hexd (s[k].toNat / 16)) rfl rfl rfl Tryz.underlying140 infoB rfl rfl ho1 hb1 (ρ _) ?_ ?_; (focus (simp only [List.length_append, List.length_cons, List.length_nil]; have := HL.out; omega)); intro v2 w2 ho2 hb2) | (at_builtin; refine wpList_appB1 (hexd (s[k].toNat % 16)) rfl rfl rfl Tryz.underlying140 infoB rfl rfl ho2 hb2 (ρ _) ?_ ?_; (focus (simp only [List.length_append, List.length_cons, List.length_nil]; have := HL.out; omega)); intro v3 w3 ho3 hb3))
    go_roundw
    case rel => exact ⟨k + 1, by omega, by go_num, ho3.cast (by rw [ht.out, HE.out]; simp), hb3⟩
    case measure => simp [intOf]; omega
   ·have HE := κ hE
    clear hE
    go_wp2_with (first | (at_builtin; refine wpList_appB1 37 rfl rfl rfl Tryz.underlying140 infoB rfl rfl hown hB (ρ _) ?_ ?_; (focus (have := HL.out; omega)); intro v1 w1 ho1 hb1) | (at_builtin; refine wpList_appB1 (hexd (s[k].toNat / 16)) rfl rfl rfl Tryz.underlying140 infoB rfl rfl ho1 hb1 (ρ _) ?_ ?_; (focus (simp only [List.length_append, List.length_cons, List.length_nil]; have := HL.out; omega)); intro v2 w2 ho2 hb2) | (at_builtin; refine wpList_appB1 (hexd (s[k].toNat % 16)) rfl rfl rfl Tryz.underlying140 infoB rfl rfl ho2 hb2 (ρ _) ?_ ?_; (focus (simp only [List.length_append, List.length_cons, List.length_nil]; have := HL.out; omega)); intro v3 w3 ho3 hb3))
    go_roundw
    case rel => exact ⟨k + 1, by omega, by go_num, ho3.cast (by rw [ht.out, HE.out]; simp), hb3⟩
    case measure => simp [intOf]; omega
  ·have hown' := κ (take_all s k (by omega))
   go_wp2_with (refine wpList_str rfl rfl Tryz.underlying140 Tryz.underlying5 Tryz.underlying9 rfl hown ?_)
   go_ret
   exact ⟨ret_bs (by rw [us_bs]; first | rfl | rw [hown'.out]; rfl), hB⟩
end
end Go.Proofs.YtipdiddjhimdcaaGreatDoor
namespace Go.Proofs.YtipdiddjhimdcaaGreatDoor
open Go.RowKit Go.Sort
set_option maxHeartbeats 3200000 in
theorem pairR_c (p : Prm) (K : ByteArray) (hn : p.name.length ≤ 4294967280) (hv : p.value.length ≤ 4294967280) (hK : K.size ≤ 4294967280) (w : World) :
  Calls Tryz.prog 137 #[pv p, .string K] w fun e w' => e = .returned (.string (bs (pairS p (us K)))) ∧ Below w.heap.size w w' := by
 obtain ⟨n, v, h⟩ := p
 dsimp only at hn hv
 have HE1 := κ (fun wx => escapeR_c (bs n) K (by rw [size_bs]; omega) (by omega) wx)
 have HE2 := κ (fun wx => escapeR_c (bs v) K (by rw [size_bs]; omega) (by omega) wx)
 have l1 := escape_le n (us K)
 have l2 := escape_le v (us K)
 rw [us_bs] at HE1 HE2
 have hpt : pairS ⟨n, v, h⟩ (us K) = escape n (us K) ++ (if h = true then 61 :: escape v (us K) else []) := rfl
 obtain ⟨R, hR⟩ : ∃ R, R = pairS ⟨n, v, h⟩ (us K) := ⟨_, rfl⟩
 rw [← hR] at hpt ⊢
 obtain ⟨X, hX⟩ : ∃ X, X = bs (escape n (us K)) := ⟨_, rfl⟩
 obtain ⟨Y, hY⟩ : ∃ Y, Y = bs (escape v (us K)) := ⟨_, rfl⟩
 rw [← hX] at HE1
 rw [← hY] at HE2
 have uX : escape n (us K) = us X := by rw [hX, us_bs]
 have uY : escape v (us K) = us Y := by rw [hY, us_bs]
 rw [uX, uY] at hpt
 rw [uX, length_us] at l1
 rw [uY, length_us] at l2
 unfold pv sv
 dsimp only
 obtain ⟨N, hN⟩ : ∃ N, N = bs n := ⟨_, rfl⟩
 obtain ⟨V, hV⟩ : ∃ V, V = bs v := ⟨_, rfl⟩
 rw [← hN] at HE1 ⊢
 rw [← hV] at HE2 ⊢
 have sX : X.size ≤ 12884901840 := by omega
 have sY : Y.size ≤ 12884901840 := by omega
 clear hR hX hY uX uY hN hV l1 l2 hn hv
 have hZ : Below w.heap.size w (w.alloc (.cells #[.string N, .string V, .bool h] 85)) := (Below.refl _ _).alloc (ρ _) _
 have bm := Blk.new w 85 #[.string N, .string V, .bool h]
 cases h
 ·rw [if_neg (by decide), List.append_nil] at hpt
  have HPT := κ hpt
  clear hpt
  go_enter Tryz.func137, Tryz.ntmps137
  go_wp2_with (first | (go_at_call 135; refine (HE1.out _).mono ?_; rintro e w1 ⟨rfl, hC1⟩; have hZ := hZ.trans (hC1.mono hZ.size)))
  go_ret
  exact ⟨ret_bs (by rw [HPT.out]), hZ⟩
 ·rw [if_pos rfl] at hpt
  have HPT := κ hpt
  clear hpt
  obtain ⟨y0, y1, y2, _, _, _, hzx⟩ := bm.f3
  have z0 := cell_regrown y0
  have z1 := cell_regrown y1
  have c1 := fun d os => Calls.regrown_of (HE1.out (grow (redrawn (w.alloc (.cells #[.string N, .string V, .bool true] 85)) d) os))
  have c2 := fun d os => Calls.regrown_of (HE2.out (grow (redrawn (w.alloc (.cells #[.string N, .string V, .bool true] 85)) d) os))
  go_enter Tryz.func137, Tryz.ntmps137
  go_wp2
  refine wp_region_quiet_below (by kernel_rfl) (by kernel_rfl) ?_
  repeat (first | go_big_quiet_step (first | with_reducible exact c1 _ _ | with_reducible exact c2 _ _) | quiet_step (first | with_reducible exact c1 _ _ | with_reducible exact c2 _ _))
  refine wpQuiet_nil ?_
  intro wq hw'
  have hBq := regrownZ hw'
  clear hw' c1 c2 z0 z1
  go_wp2
  go_ret
  exact ⟨ret_bs (by rw [HPT.out]; simp [us]), hZ.trans (hBq.mono hZ.size)⟩
set_option maxHeartbeats 12800000 in
theorem printUR_c (S U H : ByteArray) (n : Int) (u1 u2 : Value) (F G : List Prm) (hS : S.size ≤ 4294967280) (hH : H.size ≤ 4294967280) (hn0 : -9223372036854775808 ≤ n) (hn1 : n ≤ 9223372036854775807) (w : World) (h1 : RPrms w u1 F) (h2 : RPrms w u2 G) (hb1 : ∀ p ∈ F, p.name.length ≤ 4294967280 ∧ p.value.length ≤ 4294967280) (hb2 : ∀ p ∈ G, p.name.length ≤ 4294967280 ∧ p.value.length ≤ 4294967280) :
  Calls Tryz.prog 72 #[.agg #[.string S, .string U, .string H, .int .i64 n, u1, u2]] w fun e w' => e = .returned (.tuple #[.string (bs (printU ⟨us S, us U, us H, n, F, G⟩).1), .int .i64 (printU ⟨us S, us U, us H, n, F, G⟩).2]) ∧ Below w.heap.size w w' := by
 have HU1 := κ h1
 have HU2 := κ h2
 obtain ⟨ao, ac, rfl, hm1, c1⟩ := h1.form
 obtain ⟨bo, bc, rfl, hm2, c2⟩ := h2.form
 have C1 := κ c1
 have C2 := κ c2
 have HCK := κ (fun wx h1 h2 => checkUR_c S U H n (.slice ao F.length ac) (.slice bo G.length bc) F G hS hH wx h1 h2 hb1 hb2)
 have HDG := κ (fun wx => digitsR_c n hn0 hn1 wx)
 unfold maxLen at hm1 hm2
 have hpr : printU ⟨us S, us U, us H, n, F, G⟩ = if checkU ⟨us S, us U, us H, n, F, G⟩ = 0 then (textU ⟨us S, us U, us H, n, F, G⟩, 0) else ([], checkU ⟨us S, us U, us H, n, F, G⟩) := rfl
 have hpt := checkU_parts ⟨us S, us U, us H, n, F, G⟩
 have hth := textU_head ⟨us S, us U, us H, n, F, G⟩
 have hhd : headU ⟨us S, us U, us H, n, F, G⟩ = us S ++ 58 :: (userT (us U) ++ (us H ++ portT n)) := rfl
 dsimp only at hpt hth
 obtain ⟨PU, hPU⟩ : ∃ x, x = printU ⟨us S, us U, us H, n, F, G⟩ := ⟨_, rfl⟩
 rw [← hPU] at hpr ⊢
 obtain ⟨C, hC⟩ : ∃ C, C = checkU ⟨us S, us U, us H, n, F, G⟩ := ⟨_, rfl⟩
 rw [← hC] at hpr hpt HCK
 obtain ⟨TU, hTU⟩ : ∃ x, x = textU ⟨us S, us U, us H, n, F, G⟩ := ⟨_, rfl⟩
 rw [← hTU] at hpr hth
 obtain ⟨HDu, hHDu⟩ : ∃ x, x = headU ⟨us S, us U, us H, n, F, G⟩ := ⟨_, rfl⟩
 rw [← hHDu] at hth hhd
 clear hPU hC hTU hHDu c1 c2 h1 h2 hm1
 have hB0 : Below w.heap.size w (w.alloc (.cells #[.string S, .string U, .string H, .int .i64 n, .slice ao F.length ac, .slice bo G.length bc] 24)) := (Below.refl _ _).alloc (ρ _) _
 have bm0 := Blk.new w 24 #[.string S, .string U, .string H, .int .i64 n, .slice ao F.length ac, .slice bo G.length bc]
 obtain ⟨w0, hw0⟩ : ∃ w0, w0 = w.alloc (.cells #[.string S, .string U, .string H, .int .i64 n, .slice ao F.length ac, .slice bo G.length bc] 24) := ⟨_, rfl⟩
 rw [← hw0] at hB0 bm0
 have HX := κ (fun (wx : World) (h : Below w0.heap.size w0 wx) => (show Blk wx w.heap.size 24 #[.string S, .string U, .string H, .int .i64 n, .slice ao F.length ac, .slice bo G.length bc] ∧ Below w.heap.size w wx ∧ RPrms wx (.slice ao F.length ac) F ∧ RPrms wx (.slice bo G.length bc) G from by
  have hx := hB0.trans (h.mono hB0.size)
  exact ⟨bm0.call h, hx, HU1.out.below hx (ρ _), HU2.out.below hx (ρ _)⟩))
 have HW0 := κ hw0
 have hZ : Below w0.heap.size w0 w0 := Below.refl _ _
 obtain ⟨bm, hBB, hU1, hU2⟩ := HX.out _ hZ
 obtain ⟨p0, p1, p2, p3, p4, p5⟩ := blk_f6 bm
 clear hw0 bm0
 by_cases hc : C = 0
 case neg =>
  rw [if_neg hc] at hpr
  have t0 : (C != 0) = true := by simpa using hc
  have HPR := κ hpr
  clear hpr hpt hth hhd hc
  go_enter Tryz.func72, Tryz.ntmps72
  go_wp2_with (go_at_call 119; (try rw [← HW0.out]); refine (HCK.out _ hU1 hU2).mono ?_; rintro e w1 ⟨rfl, hC1⟩; have hZ := hZ.trans (hC1.mono hZ.size); obtain ⟨bm, hBB, hU1, hU2⟩ := HX.out _ hZ; obtain ⟨p0, p1, p2, p3, p4, p5⟩ := blk_f6 bm)
  go_ret2
  exact ⟨ret_si (p := PU) (by rw [HPR.out]; rfl), hBB⟩
 obtain ⟨s1, u64, h1', n0, n1, l1, l2, hall⟩ := hpt hc
 subst hc
 rw [if_pos rfl] at hpr
 obtain ⟨_, _, s4, _, _⟩ := scheme_facts _ s1
 have h64 := (host_low _ h1').2.2
 rw [length_us] at s4 u64 h64
 have hF := (listU_ok l1)
 have hG := (listU_ok l2)
 have hpT := fun k => psT_le (F.take k) (fun p hp => ⟨(hF.2 p (List.mem_of_mem_take hp)).2.1, (hF.2 p (List.mem_of_mem_take hp)).2.2.1⟩)
 have hgT := fun k => hsT_le (G.take k) (fun p hp => ⟨(hG.2 p (List.mem_of_mem_take hp)).2.1, (hG.2 p (List.mem_of_mem_take hp)).2.2.1⟩)
 have hF16 := hF.1
 have hG16 := hG.1
 have hFl := κ (fun p hp => (hF.2 p hp).2)
 have hGl := κ (fun p hp => (hG.2 p hp).2)
 have HPT := κ hpT
 have HGT := κ hgT
 have HPR := κ hpr
 have HTH := κ hth
 have HEU := κ (fun wx => escapeR_c U ⟨#[38, 61, 43, 36, 44, 59, 63, 47]⟩ (by omega) (by decide) wx)
 rw [show us ⟨#[38, 61, 43, 36, 44, 59, 63, 47]⟩ = kUsers from rfl] at HEU
 have hel := escape_le (us U) kUsers
 rw [length_us] at hel
 have hut : userT (us U) = if us U = [] then [] else escape (us U) kUsers ++ [64] := rfl
 have hpo : portT n = if 0 < n then 58 :: digits n else [] := rfl
 have hpl := portT_len n
 rw [hpo] at hpl
 rw [hut, hpo] at hhd
 obtain ⟨EU, hEU⟩ : ∃ x, x = bs (escape (us U) kUsers) := ⟨_, rfl⟩
 have uEU : escape (us U) kUsers = us EU := by rw [hEU, us_bs]
 rw [← hEU] at HEU
 rw [uEU] at hhd hel
 rw [length_us] at hel
 obtain ⟨DG, hDG⟩ : ∃ x, x = bs (digits n) := ⟨_, rfl⟩
 have uDG : digits n = us DG := by rw [hDG, us_bs]
 rw [← hDG] at HDG
 rw [uDG] at hhd hpl
 have hunil : us U = [] ↔ U.size = 0 := by rw [← length_us, List.length_eq_zero_iff]
 clear hpr hpt hth hall hF hG hpT hgT s1 h1' l1 l2 hut hpo hEU uEU hDG uDG
 have e1 : (⟨#[58]⟩ : ByteArray).size = 1 := rfl
 have e2 : (⟨#[64]⟩ : ByteArray).size = 1 := rfl
 have e3 : (⟨#[59]⟩ : ByteArray).size = 1 := rfl
 have e4 : (⟨#[63]⟩ : ByteArray).size = 1 := rfl
 have e5 : (⟨#[38]⟩ : ByteArray).size = 1 := rfl
 have n2 : (0 : Int) ≤ n := n0
 by_cases hu : U.size = 0 <;> by_cases hp : 0 < n
 ·rw [if_pos (hunil.2 hu)] at hhd
  obtain rfl := eq_empty hu
  clear hu hunil
  rw [if_pos hp] at hhd hpl
  rw [List.length_cons, length_us] at hpl
  have np : (n != 0) = true := by simp; omega
  have hHDl : HDu.length ≤ 400 := by rw [hhd]; simp only [List.length_append, List.length_cons, List.length_nil, length_us]; omega
  have HHD := κ hhd
  clear hhd
  go_enter Tryz.func72, Tryz.ntmps72
  go_wp2_with (first | (go_at_call 119; (try rw [← HW0.out]); refine (HCK.out _ hU1 hU2).mono ?_; rintro e w1 ⟨rfl, hC1⟩; have hZ := hZ.trans (hC1.mono hZ.size); obtain ⟨bm, hBB, hU1, hU2⟩ := HX.out _ hZ; obtain ⟨p0, p1, p2, p3, p4, p5⟩ := blk_f6 bm) | (go_at_call 135; (with_reducible refine (HEU.out _).mono ?_); rintro e w2 ⟨rfl, hCe⟩; have hZ := hZ.trans (hCe.mono hZ.size); obtain ⟨bm, hBB, hU1, hU2⟩ := HX.out _ hZ; obtain ⟨p0, p1, p2, p3, p4, p5⟩ := blk_f6 bm) | (go_at_call 136; (with_reducible refine (HDG.out _).mono ?_); rintro e w3 ⟨rfl, hCe⟩; have hZ := hZ.trans hCe.below; obtain ⟨bm, hBB, hU1, hU2⟩ := HX.out _ hZ; obtain ⟨p0, p1, p2, p3, p4, p5⟩ := blk_f6 bm))
  clear p0 p1 p2 p3 p4 p5
  go_loopw [4, 5] (fun v i wr => ∃ (k : Nat) (X : ByteArray), k ≤ F.length ∧ i = .int .i64 k ∧ v = .string X ∧ Hid (us X = HDu ++ psT (F.take k)) ∧ Below w0.heap.size w0 wr) (fun _ i _ => F.length - (intOf i).toNat)
  case atStart => exact ⟨0, _, Nat.zero_le _, rfl, rfl, κ (by rw [HHD.out]; simp [us, psT]), hZ⟩
  case round =>
   obtain ⟨k, X, hk, rfl, rfl, HL, hZ⟩ := hrel
   obtain ⟨bm, hBw, hU1, hU2⟩ := HX.out _ hZ
   obtain ⟨p0, p1, p2, p3, p4, p5⟩ := blk_f6 bm
   have hX : X.size ≤ 400 + 401 * 16 := by
    have h := HL.out
    have := HPT.out k
    rw [← length_us, h, List.length_append]
    rw [List.length_take] at this
    omega
   by_cases hlt : k < F.length
   ·obtain ⟨b, off, rfl, hbl, hc1⟩ := C1.out (by omega)
    have hpp := hFl.out _ (List.getElem_mem hlt)
    have x0 : wr.cell? ⟨b, off + k * 3, none⟩ = some (sv F[k].name) := by rw [hBw.cell (p := ⟨b, off + k * 3, none⟩) hbl]; exact (hc1 k hlt).1
    have x1 : wr.cell? ⟨b, off + k * 3 + 1, none⟩ = some (sv F[k].value) := by rw [hBw.cell (p := ⟨b, off + k * 3 + 1, none⟩) hbl]; exact (hc1 k hlt).2.1
    have x2 : wr.cell? ⟨b, off + k * 3 + 2, none⟩ = some (.bool F[k].has) := by rw [hBw.cell (p := ⟨b, off + k * 3 + 2, none⟩) hbl]; exact (hc1 k hlt).2.2
    have HPP := κ (fun wx => pairR_c F[k] ⟨#[91, 93, 47, 58, 38, 43, 36]⟩ (by omega) (by omega) (by decide) wx)
    rw [show us ⟨#[91, 93, 47, 58, 38, 43, 36]⟩ = kParams from rfl] at HPP
    have hpl2 := pair_le F[k] kParams hpp.1 hpp.2.1
    have HN := κ (psT_take F k hlt)
    unfold pv sv at HPP
    unfold sv at x0 x1
    obtain ⟨PA, hPA⟩ : ∃ x, x = bs (pairS F[k] kParams) := ⟨_, rfl⟩
    have hPAs : PA.size ≤ 400 := by rw [hPA, size_bs]; exact hpl2
    have HPA := κ (show us PA = pairS F[k] kParams by rw [hPA, us_bs])
    rw [← hPA] at HPP
    obtain ⟨N, hN⟩ : ∃ N, N = bs F[k].name := ⟨_, rfl⟩
    obtain ⟨V, hV⟩ : ∃ V, V = bs F[k].value := ⟨_, rfl⟩
    rw [← hN] at x0 HPP
    rw [← hV] at x1 HPP
    obtain ⟨h, hh⟩ : ∃ h, h = F[k].has := ⟨_, rfl⟩
    rw [← hh] at x2 HPP
    have k0 : (0 : Int) ≤ (k : Int) := by omega
    have k1 : (k : Int) < (F.length : Int) := by omega
    clear hc1 hbl hpp hpl2 hPA hN hV hh
    go_wp2_with (go_at_call 137; (with_reducible refine (HPP.out _).mono ?_); rintro e w4 ⟨rfl, hC4⟩; have hZ := hZ.trans (hC4.mono hZ.size))
    go_roundw
    case rel => exact ⟨k + 1, _, by omega, by go_num, rfl, κ (by rw [HN.out, us_append, us_append, HL.out, HPA.out]; simp [us]), hZ⟩
    case measure => simp [intOf]; omega
   ·have hkF : k = F.length := by omega
    subst hkF
    rw [List.take_of_length_le (ρ _)] at HL
    obtain ⟨X1, hX1⟩ : ∃ x, x = X := ⟨_, rfl⟩
    rw [← hX1] at HL hX
    go_wp2
    rw [← hX1]
    clear hX1 p0 p1 p2 p3 p4 p5
    go_loopw [4, 6] (fun v i wr => ∃ (k : Nat) (X : ByteArray), k ≤ G.length ∧ i = .int .i64 k ∧ v = .string X ∧ Hid (us X = us X1 ++ hsT (G.take k)) ∧ Below w0.heap.size w0 wr) (fun _ i _ => G.length - (intOf i).toNat)
    case atStart => exact ⟨0, _, Nat.zero_le _, rfl, rfl, κ (by simp [hsT]), hZ⟩
    case round =>
     clear hlt
     obtain ⟨k, X, hk, rfl, rfl, HL2, hZ⟩ := hrel
     obtain ⟨bm, hBw, hU1, hU2⟩ := HX.out _ hZ
     obtain ⟨p0, p1, p2, p3, p4, p5⟩ := blk_f6 bm
     have hX2 : X.size ≤ 400 + 401 * 16 + 401 * 16 := by
      have h := HL2.out
      have := HGT.out k
      rw [← length_us, h, List.length_append, length_us]
      rw [List.length_take] at this
      omega
     by_cases hlt : k < G.length
     ·obtain ⟨b, off, rfl, hbl, hc1⟩ := C2.out (by omega)
      have hpp := hGl.out _ (List.getElem_mem hlt)
      have x0 : wr.cell? ⟨b, off + k * 3, none⟩ = some (sv G[k].name) := by rw [hBw.cell (p := ⟨b, off + k * 3, none⟩) hbl]; exact (hc1 k hlt).1
      have x1 : wr.cell? ⟨b, off + k * 3 + 1, none⟩ = some (sv G[k].value) := by rw [hBw.cell (p := ⟨b, off + k * 3 + 1, none⟩) hbl]; exact (hc1 k hlt).2.1
      have x2 : wr.cell? ⟨b, off + k * 3 + 2, none⟩ = some (.bool G[k].has) := by rw [hBw.cell (p := ⟨b, off + k * 3 + 2, none⟩) hbl]; exact (hc1 k hlt).2.2
      have HPP := κ (fun wx => pairR_c G[k] ⟨#[91, 93, 47, 63, 58, 43, 36]⟩ (by omega) (by omega) (by decide) wx)
      rw [show us ⟨#[91, 93, 47, 63, 58, 43, 36]⟩ = kHeaders from rfl] at HPP
      have hpl2 := pair_le G[k] kHeaders hpp.1 hpp.2.1
      have HN := κ (hsT_take G k hlt)
      unfold pv sv at HPP
      unfold sv at x0 x1
      obtain ⟨PA, hPA⟩ : ∃ x, x = bs (pairS G[k] kHeaders) := ⟨_, rfl⟩
      have hPAs : PA.size ≤ 400 := by rw [hPA, size_bs]; exact hpl2
      have HPA := κ (show us PA = pairS G[k] kHeaders by rw [hPA, us_bs])
      rw [← hPA] at HPP
      obtain ⟨N, hN⟩ : ∃ N, N = bs G[k].name := ⟨_, rfl⟩
      obtain ⟨V, hV⟩ : ∃ V, V = bs G[k].value := ⟨_, rfl⟩
      rw [← hN] at x0 HPP
      rw [← hV] at x1 HPP
      obtain ⟨h, hh⟩ : ∃ h, h = G[k].has := ⟨_, rfl⟩
      rw [← hh] at x2 HPP
      have k0 : (0 : Int) ≤ (k : Int) := by omega
      have k1 : (k : Int) < (G.length : Int) := by omega
      clear hc1 hbl hpp hpl2 hPA hN hV hh
      by_cases hz : k = 0
      ·subst hz
       simp only [Nat.zero_mul, Nat.add_zero] at x0 x1 x2
       go_wp2_with (go_at_call 137; (with_reducible refine (HPP.out _).mono ?_); rintro e w4 ⟨rfl, hC4⟩; have hZ := hZ.trans (hC4.mono hZ.size))
       go_roundw
       case rel => exact ⟨0 + 1, _, by omega, by go_num, rfl, κ (by rw [HN.out, us_append, us_append, HL2.out, HPA.out]; simp [us, hsep]), hZ⟩
       case measure => simp [intOf]; omega
      ·have kz : ((k : Int) == 0) = false := by simp; omega
       go_wp2_with (go_at_call 137; (with_reducible refine (HPP.out _).mono ?_); rintro e w4 ⟨rfl, hC4⟩; have hZ := hZ.trans (hC4.mono hZ.size))
       go_roundw
       case rel => exact ⟨k + 1, _, by omega, by go_num, rfl, κ (by rw [HN.out, us_append, us_append, HL2.out, HPA.out]; simp [us, hsep, hz]), hZ⟩
       case measure => simp [intOf]; omega
     ·have hkG : k = G.length := by omega
      subst hkG
      rw [List.take_of_length_le (ρ _)] at HL2
      go_wp2
      go_ret2
      exact ⟨ret_si (p := PU) (by rw [HPR.out, HTH.out, HL2.out, HL.out]), hBw⟩
 ·rw [if_pos (hunil.2 hu)] at hhd
  obtain rfl := eq_empty hu
  clear hu hunil
  rw [if_neg hp] at hhd
  clear hpl
  obtain rfl : n = 0 := by omega
  have hHDl : HDu.length ≤ 400 := by rw [hhd]; simp only [List.length_append, List.length_cons, List.length_nil, length_us]; omega
  have HHD := κ hhd
  clear hhd
  go_enter Tryz.func72, Tryz.ntmps72
  go_wp2_with (first | (go_at_call 119; (try rw [← HW0.out]); refine (HCK.out _ hU1 hU2).mono ?_; rintro e w1 ⟨rfl, hC1⟩; have hZ := hZ.trans (hC1.mono hZ.size); obtain ⟨bm, hBB, hU1, hU2⟩ := HX.out _ hZ; obtain ⟨p0, p1, p2, p3, p4, p5⟩ := blk_f6 bm) | (go_at_call 135; (with_reducible refine (HEU.out _).mono ?_); rintro e w2 ⟨rfl, hCe⟩; have hZ := hZ.trans (hCe.mono hZ.size); obtain ⟨bm, hBB, hU1, hU2⟩ := HX.out _ hZ; obtain ⟨p0, p1, p2, p3, p4, p5⟩ := blk_f6 bm) | (go_at_call 136; (with_reducible refine (HDG.out _).mono ?_); rintro e w3 ⟨rfl, hCe⟩; have hZ := hZ.trans hCe.below; obtain ⟨bm, hBB, hU1, hU2⟩ := HX.out _ hZ; obtain ⟨p0, p1, p2, p3, p4, p5⟩ := blk_f6 bm))
  clear p0 p1 p2 p3 p4 p5
  go_loopw [4, 5] (fun v i wr => ∃ (k : Nat) (X : ByteArray), k ≤ F.length ∧ i = .int .i64 k ∧ v = .string X ∧ Hid (us X = HDu ++ psT (F.take k)) ∧ Below w0.heap.size w0 wr) (fun _ i _ => F.length - (intOf i).toNat)
  case atStart => exact ⟨0, _, Nat.zero_le _, rfl, rfl, κ (by rw [HHD.out]; simp [us, psT]), hZ⟩
  case round =>
   obtain ⟨k, X, hk, rfl, rfl, HL, hZ⟩ := hrel
   obtain ⟨bm, hBw, hU1, hU2⟩ := HX.out _ hZ
   obtain ⟨p0, p1, p2, p3, p4, p5⟩ := blk_f6 bm
   have hX : X.size ≤ 400 + 401 * 16 := by
    have h := HL.out
    have := HPT.out k
    rw [← length_us, h, List.length_append]
    rw [List.length_take] at this
    omega
   by_cases hlt : k < F.length
   ·obtain ⟨b, off, rfl, hbl, hc1⟩ := C1.out (by omega)
    have hpp := hFl.out _ (List.getElem_mem hlt)
    have x0 : wr.cell? ⟨b, off + k * 3, none⟩ = some (sv F[k].name) := by rw [hBw.cell (p := ⟨b, off + k * 3, none⟩) hbl]; exact (hc1 k hlt).1
    have x1 : wr.cell? ⟨b, off + k * 3 + 1, none⟩ = some (sv F[k].value) := by rw [hBw.cell (p := ⟨b, off + k * 3 + 1, none⟩) hbl]; exact (hc1 k hlt).2.1
    have x2 : wr.cell? ⟨b, off + k * 3 + 2, none⟩ = some (.bool F[k].has) := by rw [hBw.cell (p := ⟨b, off + k * 3 + 2, none⟩) hbl]; exact (hc1 k hlt).2.2
    have HPP := κ (fun wx => pairR_c F[k] ⟨#[91, 93, 47, 58, 38, 43, 36]⟩ (by omega) (by omega) (by decide) wx)
    rw [show us ⟨#[91, 93, 47, 58, 38, 43, 36]⟩ = kParams from rfl] at HPP
    have hpl2 := pair_le F[k] kParams hpp.1 hpp.2.1
    have HN := κ (psT_take F k hlt)
    unfold pv sv at HPP
    unfold sv at x0 x1
    obtain ⟨PA, hPA⟩ : ∃ x, x = bs (pairS F[k] kParams) := ⟨_, rfl⟩
    have hPAs : PA.size ≤ 400 := by rw [hPA, size_bs]; exact hpl2
    have HPA := κ (show us PA = pairS F[k] kParams by rw [hPA, us_bs])
    rw [← hPA] at HPP
    obtain ⟨N, hN⟩ : ∃ N, N = bs F[k].name := ⟨_, rfl⟩
    obtain ⟨V, hV⟩ : ∃ V, V = bs F[k].value := ⟨_, rfl⟩
    rw [← hN] at x0 HPP
    rw [← hV] at x1 HPP
    obtain ⟨h, hh⟩ : ∃ h, h = F[k].has := ⟨_, rfl⟩
    rw [← hh] at x2 HPP
    have k0 : (0 : Int) ≤ (k : Int) := by omega
    have k1 : (k : Int) < (F.length : Int) := by omega
    clear hc1 hbl hpp hpl2 hPA hN hV hh
    go_wp2_with (go_at_call 137; (with_reducible refine (HPP.out _).mono ?_); rintro e w4 ⟨rfl, hC4⟩; have hZ := hZ.trans (hC4.mono hZ.size))
    go_roundw
    case rel => exact ⟨k + 1, _, by omega, by go_num, rfl, κ (by rw [HN.out, us_append, us_append, HL.out, HPA.out]; simp [us]), hZ⟩
    case measure => simp [intOf]; omega
   ·have hkF : k = F.length := by omega
    subst hkF
    rw [List.take_of_length_le (ρ _)] at HL
    obtain ⟨X1, hX1⟩ : ∃ x, x = X := ⟨_, rfl⟩
    rw [← hX1] at HL hX
    go_wp2
    rw [← hX1]
    clear hX1 p0 p1 p2 p3 p4 p5
    go_loopw [4, 6] (fun v i wr => ∃ (k : Nat) (X : ByteArray), k ≤ G.length ∧ i = .int .i64 k ∧ v = .string X ∧ Hid (us X = us X1 ++ hsT (G.take k)) ∧ Below w0.heap.size w0 wr) (fun _ i _ => G.length - (intOf i).toNat)
    case atStart => exact ⟨0, _, Nat.zero_le _, rfl, rfl, κ (by simp [hsT]), hZ⟩
    case round =>
     clear hlt
     obtain ⟨k, X, hk, rfl, rfl, HL2, hZ⟩ := hrel
     obtain ⟨bm, hBw, hU1, hU2⟩ := HX.out _ hZ
     obtain ⟨p0, p1, p2, p3, p4, p5⟩ := blk_f6 bm
     have hX2 : X.size ≤ 400 + 401 * 16 + 401 * 16 := by
      have h := HL2.out
      have := HGT.out k
      rw [← length_us, h, List.length_append, length_us]
      rw [List.length_take] at this
      omega
     by_cases hlt : k < G.length
     ·obtain ⟨b, off, rfl, hbl, hc1⟩ := C2.out (by omega)
      have hpp := hGl.out _ (List.getElem_mem hlt)
      have x0 : wr.cell? ⟨b, off + k * 3, none⟩ = some (sv G[k].name) := by rw [hBw.cell (p := ⟨b, off + k * 3, none⟩) hbl]; exact (hc1 k hlt).1
      have x1 : wr.cell? ⟨b, off + k * 3 + 1, none⟩ = some (sv G[k].value) := by rw [hBw.cell (p := ⟨b, off + k * 3 + 1, none⟩) hbl]; exact (hc1 k hlt).2.1
      have x2 : wr.cell? ⟨b, off + k * 3 + 2, none⟩ = some (.bool G[k].has) := by rw [hBw.cell (p := ⟨b, off + k * 3 + 2, none⟩) hbl]; exact (hc1 k hlt).2.2
      have HPP := κ (fun wx => pairR_c G[k] ⟨#[91, 93, 47, 63, 58, 43, 36]⟩ (by omega) (by omega) (by decide) wx)
      rw [show us ⟨#[91, 93, 47, 63, 58, 43, 36]⟩ = kHeaders from rfl] at HPP
      have hpl2 := pair_le G[k] kHeaders hpp.1 hpp.2.1
      have HN := κ (hsT_take G k hlt)
      unfold pv sv at HPP
      unfold sv at x0 x1
      obtain ⟨PA, hPA⟩ : ∃ x, x = bs (pairS G[k] kHeaders) := ⟨_, rfl⟩
      have hPAs : PA.size ≤ 400 := by rw [hPA, size_bs]; exact hpl2
      have HPA := κ (show us PA = pairS G[k] kHeaders by rw [hPA, us_bs])
      rw [← hPA] at HPP
      obtain ⟨N, hN⟩ : ∃ N, N = bs G[k].name := ⟨_, rfl⟩
      obtain ⟨V, hV⟩ : ∃ V, V = bs G[k].value := ⟨_, rfl⟩
      rw [← hN] at x0 HPP
      rw [← hV] at x1 HPP
      obtain ⟨h, hh⟩ : ∃ h, h = G[k].has := ⟨_, rfl⟩
      rw [← hh] at x2 HPP
      have k0 : (0 : Int) ≤ (k : Int) := by omega
      have k1 : (k : Int) < (G.length : Int) := by omega
      clear hc1 hbl hpp hpl2 hPA hN hV hh
      by_cases hz : k = 0
      ·subst hz
       simp only [Nat.zero_mul, Nat.add_zero] at x0 x1 x2
       go_wp2_with (go_at_call 137; (with_reducible refine (HPP.out _).mono ?_); rintro e w4 ⟨rfl, hC4⟩; have hZ := hZ.trans (hC4.mono hZ.size))
       go_roundw
       case rel => exact ⟨0 + 1, _, by omega, by go_num, rfl, κ (by rw [HN.out, us_append, us_append, HL2.out, HPA.out]; simp [us, hsep]), hZ⟩
       case measure => simp [intOf]; omega
      ·have kz : ((k : Int) == 0) = false := by simp; omega
       go_wp2_with (go_at_call 137; (with_reducible refine (HPP.out _).mono ?_); rintro e w4 ⟨rfl, hC4⟩; have hZ := hZ.trans (hC4.mono hZ.size))
       go_roundw
       case rel => exact ⟨k + 1, _, by omega, by go_num, rfl, κ (by rw [HN.out, us_append, us_append, HL2.out, HPA.out]; simp [us, hsep, hz]), hZ⟩
       case measure => simp [intOf]; omega
     ·have hkG : k = G.length := by omega
      subst hkG
      rw [List.take_of_length_le (ρ _)] at HL2
      go_wp2
      go_ret2
      exact ⟨ret_si (p := PU) (by rw [HPR.out, HTH.out, HL2.out, HL.out]), hBw⟩
 ·rw [if_neg (fun h => hu (hunil.1 h))] at hhd
  have pE := ne_empty hu
  have pF := isEmpty_f hu
  clear hu hunil
  rw [if_pos hp] at hhd hpl
  rw [List.length_cons, length_us] at hpl
  have np : (n != 0) = true := by simp; omega
  have hHDl : HDu.length ≤ 400 := by rw [hhd]; simp only [List.length_append, List.length_cons, List.length_nil, length_us]; omega
  have HHD := κ hhd
  clear hhd
  go_enter Tryz.func72, Tryz.ntmps72
  go_wp2_with (first | (go_at_call 119; (try rw [← HW0.out]); refine (HCK.out _ hU1 hU2).mono ?_; rintro e w1 ⟨rfl, hC1⟩; have hZ := hZ.trans (hC1.mono hZ.size); obtain ⟨bm, hBB, hU1, hU2⟩ := HX.out _ hZ; obtain ⟨p0, p1, p2, p3, p4, p5⟩ := blk_f6 bm) | (go_at_call 135; (with_reducible refine (HEU.out _).mono ?_); rintro e w2 ⟨rfl, hCe⟩; have hZ := hZ.trans (hCe.mono hZ.size); obtain ⟨bm, hBB, hU1, hU2⟩ := HX.out _ hZ; obtain ⟨p0, p1, p2, p3, p4, p5⟩ := blk_f6 bm) | (go_at_call 136; (with_reducible refine (HDG.out _).mono ?_); rintro e w3 ⟨rfl, hCe⟩; have hZ := hZ.trans hCe.below; obtain ⟨bm, hBB, hU1, hU2⟩ := HX.out _ hZ; obtain ⟨p0, p1, p2, p3, p4, p5⟩ := blk_f6 bm))
  clear p0 p1 p2 p3 p4 p5
  go_loopw [4, 5] (fun v i wr => ∃ (k : Nat) (X : ByteArray), k ≤ F.length ∧ i = .int .i64 k ∧ v = .string X ∧ Hid (us X = HDu ++ psT (F.take k)) ∧ Below w0.heap.size w0 wr) (fun _ i _ => F.length - (intOf i).toNat)
  case atStart => exact ⟨0, _, Nat.zero_le _, rfl, rfl, κ (by rw [HHD.out]; simp [us, psT]), hZ⟩
  case round =>
   obtain ⟨k, X, hk, rfl, rfl, HL, hZ⟩ := hrel
   obtain ⟨bm, hBw, hU1, hU2⟩ := HX.out _ hZ
   obtain ⟨p0, p1, p2, p3, p4, p5⟩ := blk_f6 bm
   have hX : X.size ≤ 400 + 401 * 16 := by
    have h := HL.out
    have := HPT.out k
    rw [← length_us, h, List.length_append]
    rw [List.length_take] at this
    omega
   by_cases hlt : k < F.length
   ·obtain ⟨b, off, rfl, hbl, hc1⟩ := C1.out (by omega)
    have hpp := hFl.out _ (List.getElem_mem hlt)
    have x0 : wr.cell? ⟨b, off + k * 3, none⟩ = some (sv F[k].name) := by rw [hBw.cell (p := ⟨b, off + k * 3, none⟩) hbl]; exact (hc1 k hlt).1
    have x1 : wr.cell? ⟨b, off + k * 3 + 1, none⟩ = some (sv F[k].value) := by rw [hBw.cell (p := ⟨b, off + k * 3 + 1, none⟩) hbl]; exact (hc1 k hlt).2.1
    have x2 : wr.cell? ⟨b, off + k * 3 + 2, none⟩ = some (.bool F[k].has) := by rw [hBw.cell (p := ⟨b, off + k * 3 + 2, none⟩) hbl]; exact (hc1 k hlt).2.2
    have HPP := κ (fun wx => pairR_c F[k] ⟨#[91, 93, 47, 58, 38, 43, 36]⟩ (by omega) (by omega) (by decide) wx)
    rw [show us ⟨#[91, 93, 47, 58, 38, 43, 36]⟩ = kParams from rfl] at HPP
    have hpl2 := pair_le F[k] kParams hpp.1 hpp.2.1
    have HN := κ (psT_take F k hlt)
    unfold pv sv at HPP
    unfold sv at x0 x1
    obtain ⟨PA, hPA⟩ : ∃ x, x = bs (pairS F[k] kParams) := ⟨_, rfl⟩
    have hPAs : PA.size ≤ 400 := by rw [hPA, size_bs]; exact hpl2
    have HPA := κ (show us PA = pairS F[k] kParams by rw [hPA, us_bs])
    rw [← hPA] at HPP
    obtain ⟨N, hN⟩ : ∃ N, N = bs F[k].name := ⟨_, rfl⟩
    obtain ⟨V, hV⟩ : ∃ V, V = bs F[k].value := ⟨_, rfl⟩
    rw [← hN] at x0 HPP
    rw [← hV] at x1 HPP
    obtain ⟨h, hh⟩ : ∃ h, h = F[k].has := ⟨_, rfl⟩
    rw [← hh] at x2 HPP
    have k0 : (0 : Int) ≤ (k : Int) := by omega
    have k1 : (k : Int) < (F.length : Int) := by omega
    clear hc1 hbl hpp hpl2 hPA hN hV hh
    go_wp2_with (go_at_call 137; (with_reducible refine (HPP.out _).mono ?_); rintro e w4 ⟨rfl, hC4⟩; have hZ := hZ.trans (hC4.mono hZ.size))
    go_roundw
    case rel => exact ⟨k + 1, _, by omega, by go_num, rfl, κ (by rw [HN.out, us_append, us_append, HL.out, HPA.out]; simp [us]), hZ⟩
    case measure => simp [intOf]; omega
   ·have hkF : k = F.length := by omega
    subst hkF
    rw [List.take_of_length_le (ρ _)] at HL
    obtain ⟨X1, hX1⟩ : ∃ x, x = X := ⟨_, rfl⟩
    rw [← hX1] at HL hX
    go_wp2
    rw [← hX1]
    clear hX1 p0 p1 p2 p3 p4 p5
    go_loopw [4, 6] (fun v i wr => ∃ (k : Nat) (X : ByteArray), k ≤ G.length ∧ i = .int .i64 k ∧ v = .string X ∧ Hid (us X = us X1 ++ hsT (G.take k)) ∧ Below w0.heap.size w0 wr) (fun _ i _ => G.length - (intOf i).toNat)
    case atStart => exact ⟨0, _, Nat.zero_le _, rfl, rfl, κ (by simp [hsT]), hZ⟩
    case round =>
     clear hlt
     obtain ⟨k, X, hk, rfl, rfl, HL2, hZ⟩ := hrel
     obtain ⟨bm, hBw, hU1, hU2⟩ := HX.out _ hZ
     obtain ⟨p0, p1, p2, p3, p4, p5⟩ := blk_f6 bm
     have hX2 : X.size ≤ 400 + 401 * 16 + 401 * 16 := by
      have h := HL2.out
      have := HGT.out k
      rw [← length_us, h, List.length_append, length_us]
      rw [List.length_take] at this
      omega
     by_cases hlt : k < G.length
     ·obtain ⟨b, off, rfl, hbl, hc1⟩ := C2.out (by omega)
      have hpp := hGl.out _ (List.getElem_mem hlt)
      have x0 : wr.cell? ⟨b, off + k * 3, none⟩ = some (sv G[k].name) := by rw [hBw.cell (p := ⟨b, off + k * 3, none⟩) hbl]; exact (hc1 k hlt).1
      have x1 : wr.cell? ⟨b, off + k * 3 + 1, none⟩ = some (sv G[k].value) := by rw [hBw.cell (p := ⟨b, off + k * 3 + 1, none⟩) hbl]; exact (hc1 k hlt).2.1
      have x2 : wr.cell? ⟨b, off + k * 3 + 2, none⟩ = some (.bool G[k].has) := by rw [hBw.cell (p := ⟨b, off + k * 3 + 2, none⟩) hbl]; exact (hc1 k hlt).2.2
      have HPP := κ (fun wx => pairR_c G[k] ⟨#[91, 93, 47, 63, 58, 43, 36]⟩ (by omega) (by omega) (by decide) wx)
      rw [show us ⟨#[91, 93, 47, 63, 58, 43, 36]⟩ = kHeaders from rfl] at HPP
      have hpl2 := pair_le G[k] kHeaders hpp.1 hpp.2.1
      have HN := κ (hsT_take G k hlt)
      unfold pv sv at HPP
      unfold sv at x0 x1
      obtain ⟨PA, hPA⟩ : ∃ x, x = bs (pairS G[k] kHeaders) := ⟨_, rfl⟩
      have hPAs : PA.size ≤ 400 := by rw [hPA, size_bs]; exact hpl2
      have HPA := κ (show us PA = pairS G[k] kHeaders by rw [hPA, us_bs])
      rw [← hPA] at HPP
      obtain ⟨N, hN⟩ : ∃ N, N = bs G[k].name := ⟨_, rfl⟩
      obtain ⟨V, hV⟩ : ∃ V, V = bs G[k].value := ⟨_, rfl⟩
      rw [← hN] at x0 HPP
      rw [← hV] at x1 HPP
      obtain ⟨h, hh⟩ : ∃ h, h = G[k].has := ⟨_, rfl⟩
      rw [← hh] at x2 HPP
      have k0 : (0 : Int) ≤ (k : Int) := by omega
      have k1 : (k : Int) < (G.length : Int) := by omega
      clear hc1 hbl hpp hpl2 hPA hN hV hh
      by_cases hz : k = 0
      ·subst hz
       simp only [Nat.zero_mul, Nat.add_zero] at x0 x1 x2
       go_wp2_with (go_at_call 137; (with_reducible refine (HPP.out _).mono ?_); rintro e w4 ⟨rfl, hC4⟩; have hZ := hZ.trans (hC4.mono hZ.size))
       go_roundw
       case rel => exact ⟨0 + 1, _, by omega, by go_num, rfl, κ (by rw [HN.out, us_append, us_append, HL2.out, HPA.out]; simp [us, hsep]), hZ⟩
       case measure => simp [intOf]; omega
      ·have kz : ((k : Int) == 0) = false := by simp; omega
       go_wp2_with (go_at_call 137; (with_reducible refine (HPP.out _).mono ?_); rintro e w4 ⟨rfl, hC4⟩; have hZ := hZ.trans (hC4.mono hZ.size))
       go_roundw
       case rel => exact ⟨k + 1, _, by omega, by go_num, rfl, κ (by rw [HN.out, us_append, us_append, HL2.out, HPA.out]; simp [us, hsep, hz]), hZ⟩
       case measure => simp [intOf]; omega
     ·have hkG : k = G.length := by omega
      subst hkG
      rw [List.take_of_length_le (ρ _)] at HL2
      go_wp2
      go_ret2
      exact ⟨ret_si (p := PU) (by rw [HPR.out, HTH.out, HL2.out, HL.out]), hBw⟩
 ·rw [if_neg (fun h => hu (hunil.1 h))] at hhd
  have pE := ne_empty hu
  have pF := isEmpty_f hu
  clear hu hunil
  rw [if_neg hp] at hhd
  clear hpl
  obtain rfl : n = 0 := by omega
  have hHDl : HDu.length ≤ 400 := by rw [hhd]; simp only [List.length_append, List.length_cons, List.length_nil, length_us]; omega
  have HHD := κ hhd
  clear hhd
  go_enter Tryz.func72, Tryz.ntmps72
  go_wp2_with (first | (go_at_call 119; (try rw [← HW0.out]); refine (HCK.out _ hU1 hU2).mono ?_; rintro e w1 ⟨rfl, hC1⟩; have hZ := hZ.trans (hC1.mono hZ.size); obtain ⟨bm, hBB, hU1, hU2⟩ := HX.out _ hZ; obtain ⟨p0, p1, p2, p3, p4, p5⟩ := blk_f6 bm) | (go_at_call 135; (with_reducible refine (HEU.out _).mono ?_); rintro e w2 ⟨rfl, hCe⟩; have hZ := hZ.trans (hCe.mono hZ.size); obtain ⟨bm, hBB, hU1, hU2⟩ := HX.out _ hZ; obtain ⟨p0, p1, p2, p3, p4, p5⟩ := blk_f6 bm) | (go_at_call 136; (with_reducible refine (HDG.out _).mono ?_); rintro e w3 ⟨rfl, hCe⟩; have hZ := hZ.trans hCe.below; obtain ⟨bm, hBB, hU1, hU2⟩ := HX.out _ hZ; obtain ⟨p0, p1, p2, p3, p4, p5⟩ := blk_f6 bm))
  clear p0 p1 p2 p3 p4 p5
  go_loopw [4, 5] (fun v i wr => ∃ (k : Nat) (X : ByteArray), k ≤ F.length ∧ i = .int .i64 k ∧ v = .string X ∧ Hid (us X = HDu ++ psT (F.take k)) ∧ Below w0.heap.size w0 wr) (fun _ i _ => F.length - (intOf i).toNat)
  case atStart => exact ⟨0, _, Nat.zero_le _, rfl, rfl, κ (by rw [HHD.out]; simp [us, psT]), hZ⟩
  case round =>
   obtain ⟨k, X, hk, rfl, rfl, HL, hZ⟩ := hrel
   obtain ⟨bm, hBw, hU1, hU2⟩ := HX.out _ hZ
   obtain ⟨p0, p1, p2, p3, p4, p5⟩ := blk_f6 bm
   have hX : X.size ≤ 400 + 401 * 16 := by
    have h := HL.out
    have := HPT.out k
    rw [← length_us, h, List.length_append]
    rw [List.length_take] at this
    omega
   by_cases hlt : k < F.length
   ·obtain ⟨b, off, rfl, hbl, hc1⟩ := C1.out (by omega)
    have hpp := hFl.out _ (List.getElem_mem hlt)
    have x0 : wr.cell? ⟨b, off + k * 3, none⟩ = some (sv F[k].name) := by rw [hBw.cell (p := ⟨b, off + k * 3, none⟩) hbl]; exact (hc1 k hlt).1
    have x1 : wr.cell? ⟨b, off + k * 3 + 1, none⟩ = some (sv F[k].value) := by rw [hBw.cell (p := ⟨b, off + k * 3 + 1, none⟩) hbl]; exact (hc1 k hlt).2.1
    have x2 : wr.cell? ⟨b, off + k * 3 + 2, none⟩ = some (.bool F[k].has) := by rw [hBw.cell (p := ⟨b, off + k * 3 + 2, none⟩) hbl]; exact (hc1 k hlt).2.2
    have HPP := κ (fun wx => pairR_c F[k] ⟨#[91, 93, 47, 58, 38, 43, 36]⟩ (by omega) (by omega) (by decide) wx)
    rw [show us ⟨#[91, 93, 47, 58, 38, 43, 36]⟩ = kParams from rfl] at HPP
    have hpl2 := pair_le F[k] kParams hpp.1 hpp.2.1
    have HN := κ (psT_take F k hlt)
    unfold pv sv at HPP
    unfold sv at x0 x1
    obtain ⟨PA, hPA⟩ : ∃ x, x = bs (pairS F[k] kParams) := ⟨_, rfl⟩
    have hPAs : PA.size ≤ 400 := by rw [hPA, size_bs]; exact hpl2
    have HPA := κ (show us PA = pairS F[k] kParams by rw [hPA, us_bs])
    rw [← hPA] at HPP
    obtain ⟨N, hN⟩ : ∃ N, N = bs F[k].name := ⟨_, rfl⟩
    obtain ⟨V, hV⟩ : ∃ V, V = bs F[k].value := ⟨_, rfl⟩
    rw [← hN] at x0 HPP
    rw [← hV] at x1 HPP
    obtain ⟨h, hh⟩ : ∃ h, h = F[k].has := ⟨_, rfl⟩
    rw [← hh] at x2 HPP
    have k0 : (0 : Int) ≤ (k : Int) := by omega
    have k1 : (k : Int) < (F.length : Int) := by omega
    clear hc1 hbl hpp hpl2 hPA hN hV hh
    go_wp2_with (go_at_call 137; (with_reducible refine (HPP.out _).mono ?_); rintro e w4 ⟨rfl, hC4⟩; have hZ := hZ.trans (hC4.mono hZ.size))
    go_roundw
    case rel => exact ⟨k + 1, _, by omega, by go_num, rfl, κ (by rw [HN.out, us_append, us_append, HL.out, HPA.out]; simp [us]), hZ⟩
    case measure => simp [intOf]; omega
   ·have hkF : k = F.length := by omega
    subst hkF
    rw [List.take_of_length_le (ρ _)] at HL
    obtain ⟨X1, hX1⟩ : ∃ x, x = X := ⟨_, rfl⟩
    rw [← hX1] at HL hX
    go_wp2
    rw [← hX1]
    clear hX1 p0 p1 p2 p3 p4 p5
    go_loopw [4, 6] (fun v i wr => ∃ (k : Nat) (X : ByteArray), k ≤ G.length ∧ i = .int .i64 k ∧ v = .string X ∧ Hid (us X = us X1 ++ hsT (G.take k)) ∧ Below w0.heap.size w0 wr) (fun _ i _ => G.length - (intOf i).toNat)
    case atStart => exact ⟨0, _, Nat.zero_le _, rfl, rfl, κ (by simp [hsT]), hZ⟩
    case round =>
     clear hlt
     obtain ⟨k, X, hk, rfl, rfl, HL2, hZ⟩ := hrel
     obtain ⟨bm, hBw, hU1, hU2⟩ := HX.out _ hZ
     obtain ⟨p0, p1, p2, p3, p4, p5⟩ := blk_f6 bm
     have hX2 : X.size ≤ 400 + 401 * 16 + 401 * 16 := by
      have h := HL2.out
      have := HGT.out k
      rw [← length_us, h, List.length_append, length_us]
      rw [List.length_take] at this
      omega
     by_cases hlt : k < G.length
     ·obtain ⟨b, off, rfl, hbl, hc1⟩ := C2.out (by omega)
      have hpp := hGl.out _ (List.getElem_mem hlt)
      have x0 : wr.cell? ⟨b, off + k * 3, none⟩ = some (sv G[k].name) := by rw [hBw.cell (p := ⟨b, off + k * 3, none⟩) hbl]; exact (hc1 k hlt).1
      have x1 : wr.cell? ⟨b, off + k * 3 + 1, none⟩ = some (sv G[k].value) := by rw [hBw.cell (p := ⟨b, off + k * 3 + 1, none⟩) hbl]; exact (hc1 k hlt).2.1
      have x2 : wr.cell? ⟨b, off + k * 3 + 2, none⟩ = some (.bool G[k].has) := by rw [hBw.cell (p := ⟨b, off + k * 3 + 2, none⟩) hbl]; exact (hc1 k hlt).2.2
      have HPP := κ (fun wx => pairR_c G[k] ⟨#[91, 93, 47, 63, 58, 43, 36]⟩ (by omega) (by omega) (by decide) wx)
      rw [show us ⟨#[91, 93, 47, 63, 58, 43, 36]⟩ = kHeaders from rfl] at HPP
      have hpl2 := pair_le G[k] kHeaders hpp.1 hpp.2.1
      have HN := κ (hsT_take G k hlt)
      unfold pv sv at HPP
      unfold sv at x0 x1
      obtain ⟨PA, hPA⟩ : ∃ x, x = bs (pairS G[k] kHeaders) := ⟨_, rfl⟩
      have hPAs : PA.size ≤ 400 := by rw [hPA, size_bs]; exact hpl2
      have HPA := κ (show us PA = pairS G[k] kHeaders by rw [hPA, us_bs])
      rw [← hPA] at HPP
      obtain ⟨N, hN⟩ : ∃ N, N = bs G[k].name := ⟨_, rfl⟩
      obtain ⟨V, hV⟩ : ∃ V, V = bs G[k].value := ⟨_, rfl⟩
      rw [← hN] at x0 HPP
      rw [← hV] at x1 HPP
      obtain ⟨h, hh⟩ : ∃ h, h = G[k].has := ⟨_, rfl⟩
      rw [← hh] at x2 HPP
      have k0 : (0 : Int) ≤ (k : Int) := by omega
      have k1 : (k : Int) < (G.length : Int) := by omega
      clear hc1 hbl hpp hpl2 hPA hN hV hh
      by_cases hz : k = 0
      ·subst hz
       simp only [Nat.zero_mul, Nat.add_zero] at x0 x1 x2
       go_wp2_with (go_at_call 137; (with_reducible refine (HPP.out _).mono ?_); rintro e w4 ⟨rfl, hC4⟩; have hZ := hZ.trans (hC4.mono hZ.size))
       go_roundw
       case rel => exact ⟨0 + 1, _, by omega, by go_num, rfl, κ (by rw [HN.out, us_append, us_append, HL2.out, HPA.out]; simp [us, hsep]), hZ⟩
       case measure => simp [intOf]; omega
      ·have kz : ((k : Int) == 0) = false := by simp; omega
       go_wp2_with (go_at_call 137; (with_reducible refine (HPP.out _).mono ?_); rintro e w4 ⟨rfl, hC4⟩; have hZ := hZ.trans (hC4.mono hZ.size))
       go_roundw
       case rel => exact ⟨k + 1, _, by omega, by go_num, rfl, κ (by rw [HN.out, us_append, us_append, HL2.out, HPA.out]; simp [us, hsep, hz]), hZ⟩
       case measure => simp [intOf]; omega
     ·have hkG : k = G.length := by omega
      subst hkG
      rw [List.take_of_length_le (ρ _)] at HL2
      go_wp2
      go_ret2
      exact ⟨ret_si (p := PU) (by rw [HPR.out, HTH.out, HL2.out, HL.out]), hBw⟩
set_option maxHeartbeats 6400000 in
theorem printAR_c (D S U H : ByteArray) (n : Int) (u1 u2 u3 : Value) (F G P : List Prm) (hD : D.size ≤ 4294967280) (hS : S.size ≤ 4294967280) (hH : H.size ≤ 4294967280) (hn0 : -9223372036854775808 ≤ n) (hn1 : n ≤ 9223372036854775807) (w : World) (h1 : RPrms w u1 F) (h2 : RPrms w u2 G) (h3 : RPrms w u3 P) (hb1 : ∀ p ∈ F, p.name.length ≤ 4294967280 ∧ p.value.length ≤ 4294967280) (hb2 : ∀ p ∈ G, p.name.length ≤ 4294967280 ∧ p.value.length ≤ 4294967280) (hb3 : ∀ p ∈ P, p.name.length ≤ 4294967280 ∧ p.value.length ≤ 4294967280) :
  Calls Tryz.prog 74 #[.agg #[.string D, .string S, .string U, .string H, .int .i64 n, u1, u2, u3]] w fun e w' => e = .returned (.tuple #[.string (bs (printA (⟨us D, ⟨us S, us U, us H, n, F, G⟩, P⟩ : Adr)).1), .int .i64 (printA (⟨us D, ⟨us S, us U, us H, n, F, G⟩, P⟩ : Adr)).2]) ∧ Below w.heap.size w w' := by
 have HU1 := κ h1
 have HU2 := κ h2
 have HU3 := κ h3
 obtain ⟨ao, ac, rfl, _, _⟩ := h1.form
 obtain ⟨bo, bc, rfl, _, _⟩ := h2.form
 obtain ⟨co, cc, rfl, _, _⟩ := h3.form
 have HQ := κ (fun wx => quoteR_c D (by omega) wx)
 have HC := κ (fun wx h1 h2 h3 => checkAR_c D S U H n (.slice ao F.length ac) (.slice bo G.length bc) (.slice co P.length cc) F G P hD hS hH wx h1 h2 h3 hb1 hb2 hb3)
 have HU := κ (fun wx h1 h2 => printUR_c S U H n (.slice ao F.length ac) (.slice bo G.length bc) F G hS hH hn0 hn1 wx h1 h2 hb1 hb2)
 have HT := κ (fun wx hv => textR_c (.slice co P.length cc) P wx hv hb3)
 have hpr : printA (⟨us D, ⟨us S, us U, us H, n, F, G⟩, P⟩ : Adr) = if checkA (⟨us D, ⟨us S, us U, us H, n, F, G⟩, P⟩ : Adr) = 0 then (textA (⟨us D, ⟨us S, us U, us H, n, F, G⟩, P⟩ : Adr), 0) else ([], checkA (⟨us D, ⟨us S, us U, us H, n, F, G⟩, P⟩ : Adr)) := rfl
 have hpt := checkA_parts (⟨us D, ⟨us S, us U, us H, n, F, G⟩, P⟩ : Adr)
 have htx : textA (⟨us D, ⟨us S, us U, us H, n, F, G⟩, P⟩ : Adr) = nameT (us D) ++ 60 :: (textU ⟨us S, us U, us H, n, F, G⟩ ++ 62 :: (textS P).1) := rfl
 have hul := textU_le ⟨us S, us U, us H, n, F, G⟩
 have hpu : checkU ⟨us S, us U, us H, n, F, G⟩ = 0 → printU ⟨us S, us U, us H, n, F, G⟩ = (textU ⟨us S, us U, us H, n, F, G⟩, 0) := fun h => if_pos h
 have htl := textS_le P
 dsimp only at hpt
 obtain ⟨PA, hPA⟩ : ∃ C, C = printA (⟨us D, ⟨us S, us U, us H, n, F, G⟩, P⟩ : Adr) := ⟨_, rfl⟩
 rw [← hPA] at hpr ⊢
 obtain ⟨C, hC⟩ : ∃ C, C = checkA (⟨us D, ⟨us S, us U, us H, n, F, G⟩, P⟩ : Adr) := ⟨_, rfl⟩
 rw [← hC] at HC hpr hpt
 obtain ⟨TA, hTA⟩ : ∃ C, C = textA (⟨us D, ⟨us S, us U, us H, n, F, G⟩, P⟩ : Adr) := ⟨_, rfl⟩
 rw [← hTA] at hpr htx
 clear hPA hC hTA h1 h2 h3 hb1 hb2 hb3
 have hB0 : Below w.heap.size w (w.alloc (.cells #[.string D, .string S, .string U, .string H, .int .i64 n, .slice ao F.length ac, .slice bo G.length bc, .slice co P.length cc] 26)) := (Below.refl _ _).alloc (ρ _) _
 have bm0 := Blk.new w 26 #[.string D, .string S, .string U, .string H, .int .i64 n, .slice ao F.length ac, .slice bo G.length bc, .slice co P.length cc]
 obtain ⟨w0, hw0⟩ : ∃ w0, w0 = w.alloc (.cells #[.string D, .string S, .string U, .string H, .int .i64 n, .slice ao F.length ac, .slice bo G.length bc, .slice co P.length cc] 26) := ⟨_, rfl⟩
 rw [← hw0] at hB0 bm0
 have HX := κ (fun (wx : World) (h : Below w0.heap.size w0 wx) => (show Blk wx w.heap.size 26 #[.string D, .string S, .string U, .string H, .int .i64 n, .slice ao F.length ac, .slice bo G.length bc, .slice co P.length cc] ∧ Below w.heap.size w wx ∧ True ∧ RPrms wx (.slice ao F.length ac) F ∧ RPrms wx (.slice bo G.length bc) G ∧ RPrms wx (.slice co P.length cc) P from by
  have hx := hB0.trans (h.mono hB0.size)
  exact ⟨bm0.call h, hx, trivial, HU1.out.below hx (ρ _), HU2.out.below hx (ρ _), HU3.out.below hx (ρ _)⟩))
 have HW0 := κ hw0
 have hZ : Below w0.heap.size w0 w0 := Below.refl _ _
 obtain ⟨bm, hBB, hMM, hU1, hU2, hU3⟩ := HX.out _ hZ
 obtain ⟨p0, p1, p2, p3, p4, p5, p6, p7⟩ := blk_f8 bm
 clear hw0 bm0 hB0
 by_cases hc : C = 0
 case neg =>
  rw [if_neg hc] at hpr
  have t0 : (C != 0) = true := by simpa using hc
  have HPR := κ hpr
  clear hpr hpt htx hul hpu htl hc
  go_enter Tryz.func74, Tryz.ntmps74
  go_wp2_with (first | (go_at_call 66; (try rw [← HW0.out]); refine (HC.out _ hU1 hU2 hU3).mono ?_; rintro e w1 ⟨rfl, hC1⟩; have hZ := hZ.trans (hC1.mono hZ.size); obtain ⟨bm, hBB, hMM, hU1, hU2, hU3⟩ := HX.out _ hZ; obtain ⟨p0, p1, p2, p3, p4, p5, p6, p7⟩ := blk_f8 bm) | (go_at_call 72; refine (HU.out _ hU1 hU2).mono ?_; rintro e w2 ⟨rfl, hC2⟩; have hZ := hZ.trans (hC2.mono hZ.size); obtain ⟨bm, hBB, hMM, hU1, hU2, hU3⟩ := HX.out _ hZ; obtain ⟨p0, p1, p2, p3, p4, p5, p6, p7⟩ := blk_f8 bm) | (go_at_call 120; refine (HT.out _ hU3).mono ?_; rintro e w3 ⟨rfl, hC3⟩; have hZ := hZ.trans (hC3.mono hZ.size); obtain ⟨bm, hBB, hMM, hU1, hU2, hU3⟩ := HX.out _ hZ; obtain ⟨p0, p1, p2, p3, p4, p5, p6, p7⟩ := blk_f8 bm) | (go_at_call 118; refine (HQ.out _).mono ?_; rintro e w4 ⟨rfl, hC4⟩; have hZ := hZ.trans (hC4.mono hZ.size); obtain ⟨bm, hBB, hMM, hU1, hU2, hU3⟩ := HX.out _ hZ; obtain ⟨p0, p1, p2, p3, p4, p5, p6, p7⟩ := blk_f8 bm))
  go_ret2
  exact ⟨ret_si (p := PA) (by rw [HPR.out]; rfl), hBB⟩
 obtain ⟨q0, d64, cu0, t0⟩ := hpt hc
 subst hc
 rw [if_pos rfl] at hpr
 have hul := hul cu0
 have hpu := hpu cu0
 have hqn := quote_le (us D)
 have hnm : nameT (us D) = if us D = [] then [] else (quote (us D)).1 ++ [32] := rfl
 rw [hpu] at HU
 rw [hnm] at htx
 have hdn : us D = [] ↔ D.size = 0 := by rw [← length_us, List.length_eq_zero_iff]
 rw [length_us] at d64 hqn
 obtain ⟨TU, hTU⟩ : ∃ x, x = bs (textU ⟨us S, us U, us H, n, F, G⟩) := ⟨_, rfl⟩
 have uTU : textU ⟨us S, us U, us H, n, F, G⟩ = us TU := by rw [hTU, us_bs]
 obtain ⟨TP, hTP⟩ : ∃ x, x = bs (textS P).1 := ⟨_, rfl⟩
 have uTP : (textS P).1 = us TP := by rw [hTP, us_bs]
 obtain ⟨QD, hQD⟩ : ∃ x, x = bs (quote (us D)).1 := ⟨_, rfl⟩
 have uQD : (quote (us D)).1 = us QD := by rw [hQD, us_bs]
 rw [← hTU] at HU
 rw [← hTP, t0] at HT
 rw [← hQD, q0] at HQ
 rw [uTU, length_us] at hul
 rw [uTP, length_us] at htl
 rw [uQD, length_us] at hqn
 rw [uTU, uTP, uQD] at htx
 have HPR := κ hpr
 clear hpr hpu hTU uTU hTP uTP hQD uQD hnm cu0 q0 t0
 by_cases hd : D.size = 0
 rw [if_pos (hdn.2 hd), List.nil_append] at htx
 have HTX := κ htx
 obtain rfl := eq_empty hd
 rotate_left
 rw [if_neg (fun h => hd (hdn.1 h))] at htx
 have HTX := κ htx
 have pE := ne_empty hd
 have pF := isEmpty_f hd
 rotate_left
 all_goals
  clear htx hd hdn
  go_enter Tryz.func74, Tryz.ntmps74
  go_wp2_with (first | (go_at_call 66; (try rw [← HW0.out]); refine (HC.out _ hU1 hU2 hU3).mono ?_; rintro e w1 ⟨rfl, hC1⟩; have hZ := hZ.trans (hC1.mono hZ.size); obtain ⟨bm, hBB, hMM, hU1, hU2, hU3⟩ := HX.out _ hZ; obtain ⟨p0, p1, p2, p3, p4, p5, p6, p7⟩ := blk_f8 bm) | (go_at_call 72; refine (HU.out _ hU1 hU2).mono ?_; rintro e w2 ⟨rfl, hC2⟩; have hZ := hZ.trans (hC2.mono hZ.size); obtain ⟨bm, hBB, hMM, hU1, hU2, hU3⟩ := HX.out _ hZ; obtain ⟨p0, p1, p2, p3, p4, p5, p6, p7⟩ := blk_f8 bm) | (go_at_call 120; refine (HT.out _ hU3).mono ?_; rintro e w3 ⟨rfl, hC3⟩; have hZ := hZ.trans (hC3.mono hZ.size); obtain ⟨bm, hBB, hMM, hU1, hU2, hU3⟩ := HX.out _ hZ; obtain ⟨p0, p1, p2, p3, p4, p5, p6, p7⟩ := blk_f8 bm) | (go_at_call 118; refine (HQ.out _).mono ?_; rintro e w4 ⟨rfl, hC4⟩; have hZ := hZ.trans (hC4.mono hZ.size); obtain ⟨bm, hBB, hMM, hU1, hU2, hU3⟩ := HX.out _ hZ; obtain ⟨p0, p1, p2, p3, p4, p5, p6, p7⟩ := blk_f8 bm))
  go_ret2
  exact ⟨ret_si (p := PA) (by rw [HPR.out, HTX.out]; simp [us]), hBB⟩
set_option maxHeartbeats 1600000 in
theorem checkVR_c (N : ByteArray) (x : Int) (u : Value) (F : List Prm) (hN : N.size ≤ 4294967280) (w : World) (hu : RPrms w u F) (hbd : ∀ p ∈ F, p.name.length ≤ 4294967280 ∧ p.value.length ≤ 4294967280) :
  Calls Tryz.prog 138 #[.agg #[.string N, .int .i64 x, u]] w fun e w' => e = .returned (.int .i64 (checkV ⟨us N, x, F⟩)) ∧ Below w.heap.size w w' := by
 have HU := κ hu
 obtain ⟨ao, cap, rfl, _, _⟩ := hu.form
 clear hu
 have HT := κ (fun wx hv => textR_c (.slice ao F.length cap) F wx hv hbd)
 have HH := κ (fun wx => hostR_c N hN wx)
 have hcs := checkV_cases N x F
 obtain ⟨tx, htx⟩ : ∃ t, t = textS F := ⟨_, rfl⟩
 rw [← htx] at HT hcs
 clear htx hbd
 obtain ⟨ts, te⟩ := tx
 dsimp only at HT hcs
 obtain ⟨C, hC⟩ : ∃ C, C = checkV ⟨us N, x, F⟩ := ⟨_, rfl⟩
 rw [← hC] at hcs ⊢
 clear hC
 have hB0 : Below w.heap.size w (w.alloc (.cells #[.string N, .int .i64 x, .slice ao F.length cap] 87)) := ((Below.refl _ _).alloc (ρ _) _)
 have bm := Blk.new w 87 #[.string N, .int .i64 x, .slice ao F.length cap]
 obtain ⟨w0, hw0⟩ : ∃ w0, w0 = w.alloc (.cells #[.string N, .int .i64 x, .slice ao F.length cap] 87) := ⟨_, rfl⟩
 rw [← hw0] at hB0 bm
 have HW0 := κ hw0
 clear hw0
 rcases hcs with ⟨h1, rfl⟩ | ⟨h1, h2, rfl⟩ | ⟨h1, h2, h3, rfl⟩ | ⟨h1, h2, h3, h4, rfl⟩ | ⟨h1, h2, h3, h4, _, rfl⟩
 all_goals
  rw [h1] at HH
  clear h1
  go_enter Tryz.func138, Tryz.ntmps138
  go_wp2_with (first | (go_at_call 165; (try rw [← HW0.out]); refine (HH.out _).mono ?_; rintro e w1 ⟨rfl, hC1⟩; have bm := bm.call hC1; obtain ⟨p0, p1, p2, _, _, _, _⟩ := bm.f3; have hZ2 := hB0.trans (hC1.mono hB0.size)) | (go_at_call 120; refine (HT.out _ (HU.out.below hZ2 (ρ _))).mono ?_; rintro e w2 ⟨rfl, hC2⟩; have bm := bm.call hC2; obtain ⟨p0, p1, p2, _, _, _, _⟩ := bm.f3; have hZ3 := hZ2.trans (hC2.mono hZ2.size)))
  go_ret
  exact ⟨by first | rfl | simp_all, by first | exact hZ3 | exact hZ2⟩
set_option maxHeartbeats 3200000 in
theorem printVR_c (N : ByteArray) (x : Int) (u : Value) (F : List Prm) (hN : N.size ≤ 4294967280) (hx0 : -9223372036854775808 ≤ x) (hx1 : x ≤ 9223372036854775807) (w : World) (hu : RPrms w u F) (hbd : ∀ p ∈ F, p.name.length ≤ 4294967280 ∧ p.value.length ≤ 4294967280) :
  Calls Tryz.prog 73 #[.agg #[.string N, .int .i64 x, u]] w fun e w' => e = .returned (.tuple #[.string (bs (printV ⟨us N, x, F⟩).1), .int .i64 (printV ⟨us N, x, F⟩).2]) ∧ Below w.heap.size w w' := by
 have HU := κ hu
 obtain ⟨ao, cap, rfl, _, _⟩ := hu.form
 clear hu
 have HC := κ (fun wx hv => checkVR_c N x (.slice ao F.length cap) F hN wx hv hbd)
 have HT := κ (fun wx hv => textR_c (.slice ao F.length cap) F wx hv hbd)
 have HD := κ (fun wx => digitsR_c x hx0 hx1 wx)
 have hpc : (checkV ⟨us N, x, F⟩ ≠ 0 ∧ printV ⟨us N, x, F⟩ = ([], checkV ⟨us N, x, F⟩)) ∨ (checkV ⟨us N, x, F⟩ = 0 ∧ N.size ≤ 64 ∧ printV ⟨us N, x, F⟩ = (textV ⟨us N, x, F⟩, 0) ∧ 0 ≤ x ∧ x ≤ 65535) := by
  unfold printV
  by_cases h : checkV ⟨us N, x, F⟩ = 0
  ·obtain ⟨h1, h2, h3, _⟩ := check_parts _ h
   exact .inr ⟨h, by rw [← length_us]; exact (host_low _ h1).2.2, if_pos h, h2, h3⟩
  ·exact .inl ⟨h, if_neg h⟩
 obtain ⟨PV, hPV⟩ : ∃ PV, PV = printV ⟨us N, x, F⟩ := ⟨_, rfl⟩
 rw [← hPV] at hpc ⊢
 clear hPV
 obtain ⟨C, hC⟩ : ∃ C, C = checkV ⟨us N, x, F⟩ := ⟨_, rfl⟩
 rw [← hC] at HC hpc
 clear hC
 have htl := textS_le F
 obtain ⟨TV, hTV⟩ : ∃ TV, TV = bs (textS F).1 := ⟨_, rfl⟩
 have uTV : (textS F).1 = us TV := by rw [hTV, us_bs]
 have sTV : TV.size ≤ 3200 := by rw [hTV, size_bs]; exact htl
 rw [← hTV] at HT
 obtain ⟨te, hte⟩ : ∃ te, te = (textS F).2 := ⟨_, rfl⟩
 rw [← hte] at HT
 clear hte hTV htl hbd
 have hB0 : Below w.heap.size w (w.alloc (.cells #[.string N, .int .i64 x, .slice ao F.length cap] 87)) := (Below.refl _ _).alloc (ρ _) _
 have bm := Blk.new w 87 #[.string N, .int .i64 x, .slice ao F.length cap]
 obtain ⟨w0, hw0⟩ : ∃ w0, w0 = w.alloc (.cells #[.string N, .int .i64 x, .slice ao F.length cap] 87) := ⟨_, rfl⟩
 rw [← hw0] at hB0 bm
 have HW0 := κ hw0
 clear hw0
 rcases hpc with ⟨c0, rfl⟩ | ⟨c0, n64, rfl, x0, x1⟩
 ·have t0 : (C != 0) = true := by simpa using c0
  clear c0
  go_enter Tryz.func73, Tryz.ntmps73
  go_wp2_with (first | (go_at_call 138; rw [← HW0.out]; refine (HC.out _ (HU.out.below hB0 (ρ _))).mono ?_; rintro e w1 ⟨rfl, hC1⟩; have bm := bm.call hC1; obtain ⟨p0, p1, p2, _, _, _, _⟩ := bm.f3; have hZ := hB0.trans (hC1.mono hB0.size)) | (go_at_call 138; refine (HC.out _ (HU.out.below hZ (ρ _))).mono ?_; rintro e w9 ⟨rfl, hC9⟩; have hZ := hZ.trans (hC9.mono hZ.size)) | (go_at_call 120; refine (HT.out _ (HU.out.below hZ (ρ _))).mono ?_; rintro e w2 ⟨rfl, hC2⟩; have bm := bm.call hC2; obtain ⟨p0, p1, p2, _, _, _, _⟩ := bm.f3; have hZ := hZ.trans (hC2.mono hZ.size)) | (go_at_call 136; refine (HD.out _).mono ?_; rintro e w3 ⟨rfl, hC3⟩; have bm := bm.call hC3.below; obtain ⟨p0, p1, p2, _, _, _, _⟩ := bm.f3; have hZ := hZ.trans (hC3.below.mono hZ.size)))
  go_ret2
  exact ⟨rfl, hZ⟩
 ·subst c0
  by_cases hp : 0 < x
  ·have ht : textV ⟨us N, x, F⟩ = nProto ++ 32 :: (us N ++ (58 :: digits x ++ us TV)) := by
    unfold textV portT; dsimp only; rw [if_pos hp, uTV]
   have hdl := portT_len x
   unfold portT at hdl
   rw [if_pos hp, List.length_cons] at hdl
   obtain ⟨D, hD⟩ : ∃ D, D = bs (digits x) := ⟨_, rfl⟩
   have uD : digits x = us D := by rw [hD, us_bs]
   have sD : D.size ≤ 21 := by rw [hD, size_bs]; omega
   rw [uD] at ht
   rw [← hD] at HD
   have HTX := κ ht
   have x2 : (x != 0) = true := by simp; omega
   clear ht hdl hD uD uTV
   go_enter Tryz.func73, Tryz.ntmps73
   go_wp2_with (first | (go_at_call 138; rw [← HW0.out]; refine (HC.out _ (HU.out.below hB0 (ρ _))).mono ?_; rintro e w1 ⟨rfl, hC1⟩; have bm := bm.call hC1; obtain ⟨p0, p1, p2, _, _, _, _⟩ := bm.f3; have hZ := hB0.trans (hC1.mono hB0.size)) | (go_at_call 138; refine (HC.out _ (HU.out.below hZ (ρ _))).mono ?_; rintro e w9 ⟨rfl, hC9⟩; have hZ := hZ.trans (hC9.mono hZ.size)) | (go_at_call 120; refine (HT.out _ (HU.out.below hZ (ρ _))).mono ?_; rintro e w2 ⟨rfl, hC2⟩; have bm := bm.call hC2; obtain ⟨p0, p1, p2, _, _, _, _⟩ := bm.f3; have hZ := hZ.trans (hC2.mono hZ.size)) | (go_at_call 136; refine (HD.out _).mono ?_; rintro e w3 ⟨rfl, hC3⟩; have bm := bm.call hC3.below; obtain ⟨p0, p1, p2, _, _, _, _⟩ := bm.f3; have hZ := hZ.trans (hC3.below.mono hZ.size)))
   go_ret2
   exact ⟨ret_sp (by rw [HTX.out]; simp [us, nProto]) , hZ⟩
  ·have ht : textV ⟨us N, x, F⟩ = nProto ++ 32 :: (us N ++ us TV) := by
    unfold textV portT; dsimp only; rw [if_neg hp, uTV, List.nil_append]
   have HTX := κ ht
   have x2 : (x != 0) = false := by simp; omega
   clear ht uTV
   go_enter Tryz.func73, Tryz.ntmps73
   go_wp2_with (first | (go_at_call 138; rw [← HW0.out]; refine (HC.out _ (HU.out.below hB0 (ρ _))).mono ?_; rintro e w1 ⟨rfl, hC1⟩; have bm := bm.call hC1; obtain ⟨p0, p1, p2, _, _, _, _⟩ := bm.f3; have hZ := hB0.trans (hC1.mono hB0.size)) | (go_at_call 138; refine (HC.out _ (HU.out.below hZ (ρ _))).mono ?_; rintro e w9 ⟨rfl, hC9⟩; have hZ := hZ.trans (hC9.mono hZ.size)) | (go_at_call 120; refine (HT.out _ (HU.out.below hZ (ρ _))).mono ?_; rintro e w2 ⟨rfl, hC2⟩; have bm := bm.call hC2; obtain ⟨p0, p1, p2, _, _, _, _⟩ := bm.f3; have hZ := hZ.trans (hC2.mono hZ.size)) | (go_at_call 136; refine (HD.out _).mono ?_; rintro e w3 ⟨rfl, hC3⟩; have bm := bm.call hC3.below; obtain ⟨p0, p1, p2, _, _, _, _⟩ := bm.f3; have hZ := hZ.trans (hC3.below.mono hZ.size)))
   go_ret2
   exact ⟨ret_sp (by rw [HTX.out]; simp [us, nProto]), hZ⟩
end Go.Proofs.YtipdiddjhimdcaaGreatDoor
