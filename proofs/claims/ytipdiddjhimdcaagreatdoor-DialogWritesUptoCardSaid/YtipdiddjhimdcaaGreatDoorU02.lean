/- Contracts of Go functions, and plain laws. No condition but those told. -/
import Derived.Test.YtipdiddjhimdcaaGreatDoorU01
import Derived.Lib.QuietBelow
set_option linter.unusedSimpArgs false
set_option linter.unusedVariables false
set_option maxRecDepth 100000
namespace Go.Proofs.YtipdiddjhimdcaaGreatDoor
section
open Go.RowKit
set_option maxHeartbeats 1600000 in
theorem cseqR_c (n : Int) (n0 : -9223372036854775808 ≤ n) (n1 : n ≤ 9223372036854775807) (s : ByteArray) (hs : s.size ≤ 140737488351232) (w : World) :
  Calls Tryz.prog 75 #[.int .i64 n, .string s] w fun e w' => e = .returned (.tuple #[.string (bs (cseqS n (us s)).1), .int .i64 (cseqS n (us s)).2]) ∧ Below w.heap.size w w' := by
 have H1 := κ (fun wx => tokenR_c s (by omega) wx)
 have H2 := κ (fun wx => digitsR_c n n0 n1 wx)
 have ld : (bs (digits n)).size ≤ 20 := by rw [size_bs]; exact digits_len n
 have HN := κ (cseqS_no n (us s))
 have HY := κ (cseqS_yes n (us s))
 have HL := κ (us_bs (digits n))
 obtain ⟨d, hd⟩ : ∃ d, d = bs (digits n) := ⟨_, rfl⟩
 rw [← hd] at H2 ld HL
 clear hd
 have hB : Below w.heap.size w w := Below.refl _ w
 have hcase : n < 0 ∨ (¬ n < 0 ∧ 2147483647 < n) ∨ (¬ n < 0 ∧ ¬ 2147483647 < n) := by omega
 have h20 : (⟨#[32]⟩ : ByteArray).size = 1 := rfl
 rcases hcase with h1 | ⟨h1, h2⟩ | ⟨h1, h2⟩
 ·have HX := κ (HN.out (.inl h1))
  go_enter Tryz.func75, Tryz.ntmps75
  go_wp2_with fail
  go_ret2
  exact ⟨ret_spH (by rw [HX.out]; rfl), hB⟩
 ·have HX := κ (HN.out (.inr (.inl h2)))
  go_enter Tryz.func75, Tryz.ntmps75
  go_wp2_with fail
  go_ret2
  exact ⟨ret_spH (by rw [HX.out]; rfl), hB⟩
 ·cases ht : token (us s)
  ·have HX := κ (HN.out (.inr (.inr ht)))
   rw [ht] at H1; clear ht
   go_enter Tryz.func75, Tryz.ntmps75
   go_wp2_with (go_at_call 65; refine (H1.out _).mono ?_; rintro e wx ⟨rfl, rfl⟩)
   go_ret2
   exact ⟨ret_spH (by rw [HX.out]; rfl), hB⟩
  ·have HX := κ (HY.out h1 h2 ht)
   rw [ht] at H1; clear ht
   go_enter Tryz.func75, Tryz.ntmps75
   go_wp2_with (first | (go_at_call 65; refine (H1.out _).mono ?_; rintro e wx ⟨rfl, rfl⟩) | (go_at_call 136; refine (H2.out _).mono ?_; rintro e wx ⟨rfl, hD⟩; replace hB := hB.trans (hD.below (B := w.heap.size))))
   go_ret2
   exact ⟨ret_spH (by rw [HX.out, us_append, us_append, HL.out]; simp [us]), hB⟩
end
end Go.Proofs.YtipdiddjhimdcaaGreatDoor
namespace Go.Proofs.YtipdiddjhimdcaaGreatDoor
open Go.RowKit
end Go.Proofs.YtipdiddjhimdcaaGreatDoor
namespace Go.Proofs.YtipdiddjhimdcaaGreatDoor
open Go.RowKit Go.Sort
set_option maxHeartbeats 6400000 in
theorem checkR_c (M T R B : ByteArray) (x : Int) (u : Value) (H : List Hdr) (hM : M.size ≤ 4294967280) (hT : T.size ≤ 4294967280) (hR : R.size ≤ 4294967280) (w : World) (hu : RHdrs w u H)
  (hb : ∀ h ∈ H, h.name.length ≤ 140737488355328 ∧ h.value.length ≤ 140737488355328) :
  Calls Tryz.prog 139 #[.agg #[.string M, .string T, .int .i64 x, .string R, u, .string B]] w fun e w' => e = .returned (.int .i64 (checkS ⟨us M, us T, x, us R, H, us B⟩)) ∧ Below w.heap.size w w' := by
 obtain ⟨ao, cap, rfl, hm1, c1⟩ := hu.form
 unfold maxLen at hm1
 have C1 := κ c1
 have HBD := κ hb
 have HF := κ (fun wx => firstR_c M T R B x (.slice ao H.length cap) H hM hT hR wx)
 have h60 := checkS_first ⟨us M, us T, x, us R, H, us B⟩
 have h4 := checkS_many ⟨us M, us T, x, us R, H, us B⟩
 have h61 := checkS_bad ⟨us M, us T, x, us R, H, us B⟩
 have h0 := checkS_ok ⟨us M, us T, x, us R, H, us B⟩
 clear c1 hu hb
 have hB0 : Below w.heap.size w (w.alloc (.cells #[.string M, .string T, .int .i64 x, .string R, .slice ao H.length cap, .string B] 45)) := (Below.refl _ _).alloc (ρ _) _
 obtain ⟨w0, hw0⟩ : ∃ w0, w0 = w.alloc (.cells #[.string M, .string T, .int .i64 x, .string R, .slice ao H.length cap, .string B] 45) := ⟨_, rfl⟩
 have bm : Blk w0 w.heap.size 45 #[.string M, .string T, .int .i64 x, .string R, .slice ao H.length cap, .string B] := by rw [hw0]; exact Blk.new _ _ _
 rw [← hw0] at hB0
 have HW0 := κ hw0.symm
 clear hw0
 obtain ⟨_, _, _, _, _, _, f0, f1, f2, f3, f4, f5, z2⟩ := bm.g6
 cases hf : firstS ⟨us M, us T, x, us R, H, us B⟩
 ·have HE := κ (h60 hf)
  rw [hf] at HF
  clear h60 h4 h61 h0 hf
  go_enter Tryz.func139, Tryz.ntmps139
  go_wp2_with (go_at_call 175; rw [HW0.out]; refine (HF.out _).mono ?_; rintro e w1 ⟨rfl, hC⟩)
  go_ret
  exact ⟨by rw [HE.out]; rfl, hB0.trans (hC.mono hB0.size)⟩
 ·rw [hf] at HF
  by_cases h64 : 64 < H.length
  ·have HE := κ (h4 hf h64)
   have t64 : ((64 : Int) < (H.length : Int)) := by omega
   clear h60 h4 h61 h0 hf
   go_enter Tryz.func139, Tryz.ntmps139
   go_wp2_with (go_at_call 175; rw [HW0.out]; refine (HF.out _).mono ?_; rintro e w1 ⟨rfl, hC⟩; obtain ⟨_, _, _, _, m4, _, _⟩ := (bm.call hC).g6)
   go_ret
   exact ⟨by rw [HE.out]; rfl, hB0.trans (hC.mono hB0.size)⟩
  ·have H61 := κ (h61 hf h64)
   have H0 := κ (h0 hf h64)
   have t64 : ¬ ((64 : Int) < (H.length : Int)) := by omega
   clear h60 h4 h61 h0 hf
   go_enter Tryz.func139, Tryz.ntmps139
   go_wp2_with (go_at_call 175; rw [HW0.out]; refine (HF.out _).mono ?_; rintro e w1 ⟨rfl, hC⟩; obtain ⟨_, _, _, _, m4, _, _⟩ := (bm.call hC).g6)
   have M4 := κ (fun (wx : World) (h : Below w1.heap.size w1 wx) => (boxedCell ((bm.call hC).call h) 4 : wx.cell? ⟨w.heap.size, 4, none⟩ = some (.slice ao H.length cap)))
   clear m4 f0 f1 f2 f3 f4 f5
   have hB1 : Below w.heap.size w w1 := hB0.trans (hC.mono hB0.size)
   go_loopw [3] (fun i wr => ∃ k : Nat, k ≤ H.length ∧ i = .int .i64 k ∧ Below w1.heap.size w1 wr ∧ (H.take k).any badH = false) (fun i _ => H.length - (intOf i).toNat)
   case atStart => exact ⟨0, Nat.zero_le _, rfl, Below.refl _ _, rfl⟩
   case round =>
    obtain ⟨k, hk, rfl, hBr0, hp⟩ := hrel
    have HP := κ hp; clear hp
    have m4 := M4.out wr hBr0
    have hBr : Below w.heap.size w wr := hB1.trans (hBr0.mono hB1.size)
    by_cases hlt : k < H.length
    ·obtain ⟨b, off, rfl, hb1, hc1⟩ := C1.out (by omega)
     obtain ⟨hbn, hbv⟩ := HBD.out _ (List.getElem_mem hlt)
     obtain ⟨N, hN⟩ : ∃ N, N = bs H[k].name := ⟨_, rfl⟩
     obtain ⟨V, hV⟩ : ∃ N, N = bs H[k].value := ⟨_, rfl⟩
     have x0 : wr.cell? ⟨b, off + k * 2, none⟩ = some (.string N) := by
      rw [hBr.cell (p := ⟨b, off + k * 2, none⟩) hb1, hN]; exact (hc1 k hlt).1
     have x1 : wr.cell? ⟨b, off + k * 2 + 1, none⟩ = some (.string V) := by
      rw [hBr.cell (p := ⟨b, off + k * 2 + 1, none⟩) hb1, hV]; exact (hc1 k hlt).2
     have hNs : N.size = H[k].name.length := by rw [hN, size_bs]
     have hVs : V.size = H[k].value.length := by rw [hV, size_bs]
     have k0 : (0 : Int) ≤ (k : Int) := by omega
     have W0 : (wr.alloc (.cells #[.string N, .string V] 68)).cell? ⟨wr.heap.size, 0, none⟩ = some (.string N) := boxedCell (heap_alloc_new wr _) 0
     have W1 : (wr.alloc (.cells #[.string N, .string V] 68)).cell? ⟨wr.heap.size, 1, none⟩ = some (.string V) := boxedCell (heap_alloc_new wr _) 1
     have q0 := cell_regrown W0
     have q1 := cell_regrown W1
     have cT := fun d os => Calls.regrown_of (same_belowQ (tokenR_c N (by omega) (grow (redrawn (wr.alloc (.cells #[.string N, .string V] 68)) d) os)))
     have cL := fun d os => Calls.regrown_of (longR_c N (by omega) (grow (redrawn (wr.alloc (.cells #[.string N, .string V] 68)) d) os))
     have cI := fun d os => Calls.regrown_of (lengthR_c N (by omega) (grow (redrawn (wr.alloc (.cells #[.string N, .string V] 68)) d) os))
     have cV := fun d os => Calls.regrown_of (same_belowQ (valueR_c' V (by omega) (grow (redrawn (wr.alloc (.cells #[.string N, .string V] 68)) d) os)))
     have uN : us N = H[k].name := by rw [hN, us_bs]
     have uV : us V = H[k].value := by rw [hV, us_bs]
     have hbad := H61.out k hlt
     have hnext := badH_next H k hlt HP.out
     have hca := badH_cases H[k]
     rw [← uN, ← uV] at hca
     clear W0 W1 hN hV hNs hVs hbn hbv uN uV hc1 hb1
     rcases hca with ⟨h1, hh⟩ | ⟨h1, h2, hh⟩ | ⟨h1, h2, h3, hh⟩ | ⟨h1, h2, h3, h4, hh⟩ | ⟨h1, h2, h3, h4, hh⟩
     ·have HE := κ (hbad hh)
      rw [h1] at cT
      clear h1 hh hbad hnext
      go_wp2; refine wp_region_quiet_below (by kernel_rfl) (by kernel_rfl) ?_; (repeat (first | go_big_quiet_step (first | with_reducible exact cT _ _ | with_reducible exact cL _ _ | with_reducible exact cI _ _ | with_reducible exact cV _ _) | quiet_step (first | with_reducible exact cT _ _ | with_reducible exact cL _ _ | with_reducible exact cI _ _ | with_reducible exact cV _ _))); refine wpQuiet_nil ?_; intro wq hw'; have hBq := regrownB hw'; clear hw'; go_wp2; go_ret; exact ⟨by rw [HE.out]; rfl, hBr.trans ((((Below.refl _ _).alloc (ρ _) _).trans (hBq.mono (by rw [World.size_alloc]; omega))).mono hBr.size)⟩
     ·have HE := κ (hbad hh)
      rw [h1] at cT
      obtain ⟨N2, hN2⟩ : ∃ N2, N2 = bs (longS (us N)) := ⟨_, rfl⟩
      have hne : (N2.toList == N.toList) = false := by rw [toList_us, toList_us, hN2, us_bs, beq_eq_false_iff_ne]; exact h2
      rw [← hN2] at cL
      clear h1 h2 hh hbad hnext hN2
      go_wp2; refine wp_region_quiet_below (by kernel_rfl) (by kernel_rfl) ?_; (repeat (first | go_big_quiet_step (first | with_reducible exact cT _ _ | with_reducible exact cL _ _ | with_reducible exact cI _ _ | with_reducible exact cV _ _) | quiet_step (first | with_reducible exact cT _ _ | with_reducible exact cL _ _ | with_reducible exact cI _ _ | with_reducible exact cV _ _))); refine wpQuiet_nil ?_; intro wq hw'; have hBq := regrownB hw'; clear hw'; go_wp2; go_ret; exact ⟨by rw [HE.out]; rfl, hBr.trans ((((Below.refl _ _).alloc (ρ _) _).trans (hBq.mono (by rw [World.size_alloc]; omega))).mono hBr.size)⟩
     ·have HE := κ (hbad hh)
      rw [h1] at cT
      rw [h2, bs_us] at cL
      rw [h3] at cI
      clear h1 h2 h3 hh hbad hnext
      go_wp2; refine wp_region_quiet_below (by kernel_rfl) (by kernel_rfl) ?_; (repeat (first | go_big_quiet_step (first | with_reducible exact cT _ _ | with_reducible exact cL _ _ | with_reducible exact cI _ _ | with_reducible exact cV _ _) | quiet_step (first | with_reducible exact cT _ _ | with_reducible exact cL _ _ | with_reducible exact cI _ _ | with_reducible exact cV _ _))); refine wpQuiet_nil ?_; intro wq hw'; have hBq := regrownB hw'; clear hw'; go_wp2; go_ret; exact ⟨by rw [HE.out]; rfl, hBr.trans ((((Below.refl _ _).alloc (ρ _) _).trans (hBq.mono (by rw [World.size_alloc]; omega))).mono hBr.size)⟩
     ·have HE := κ (hbad hh)
      rw [h1] at cT
      rw [h2, bs_us] at cL
      rw [h3] at cI
      rw [h4] at cV
      clear h1 h2 h3 h4 hh hbad hnext
      go_wp2; refine wp_region_quiet_below (by kernel_rfl) (by kernel_rfl) ?_; (repeat (first | go_big_quiet_step (first | with_reducible exact cT _ _ | with_reducible exact cL _ _ | with_reducible exact cI _ _ | with_reducible exact cV _ _) | quiet_step (first | with_reducible exact cT _ _ | with_reducible exact cL _ _ | with_reducible exact cI _ _ | with_reducible exact cV _ _))); refine wpQuiet_nil ?_; intro wq hw'; have hBq := regrownB hw'; clear hw'; go_wp2; go_ret; exact ⟨by rw [HE.out]; rfl, hBr.trans ((((Below.refl _ _).alloc (ρ _) _).trans (hBq.mono (by rw [World.size_alloc]; omega))).mono hBr.size)⟩
     ·have HN := κ (hnext hh)
      rw [h1] at cT
      rw [h2, bs_us] at cL
      rw [h3] at cI
      rw [h4] at cV
      clear h1 h2 h3 h4 hh hbad hnext
      go_wp2
      refine wp_region_quiet_below (by kernel_rfl) (by kernel_rfl) ?_; (repeat (first | go_big_quiet_step (first | with_reducible exact cT _ _ | with_reducible exact cL _ _ | with_reducible exact cI _ _ | with_reducible exact cV _ _) | quiet_step (first | with_reducible exact cT _ _ | with_reducible exact cL _ _ | with_reducible exact cI _ _ | with_reducible exact cV _ _))); refine wpQuiet_nil ?_; intro wq hw'; have hBq := regrownB hw'; clear hw'
      go_wp2
      go_roundw
      case rel => exact ⟨k + 1, by omega, by go_num, hBr0.trans ((((Below.refl _ _).alloc (ρ _) _).trans (hBq.mono (by rw [World.size_alloc]; omega))).mono hBr0.size), HN.out⟩
      case measure => simp [intOf]; omega
    ·have hk' : k = H.length := by omega
     have HE := κ (H0.out (by rw [← hk']; exact HP.out))
     go_wp2
     go_ret
     exact ⟨by rw [HE.out]; rfl, hBr⟩
set_option maxHeartbeats 12800000 in
theorem printR_c (M T R B : ByteArray) (x : Int) (u : Value) (H : List Hdr) (hM : M.size ≤ 1073741824) (hT : T.size ≤ 1073741824) (hR : R.size ≤ 1073741824) (hBs : B.size ≤ 1073741824) (x0 : -9223372036854775808 ≤ x) (x1 : x ≤ 9223372036854775807) (w : World) (hu : RHdrs w u H)
  (hb : ∀ h ∈ H, h.name.length ≤ 1073741824 ∧ h.value.length ≤ 1073741824) :
  Calls Tryz.prog 76 #[.agg #[.string M, .string T, .int .i64 x, .string R, u, .string B]] w fun e w' => e = .returned (.tuple #[.string (bs (printM ⟨us M, us T, x, us R, H, us B⟩).1), .int .i64 (printM ⟨us M, us T, x, us R, H, us B⟩).2]) ∧ Below w.heap.size w w' := by
 obtain ⟨ao, cap, rfl, hm1, c1⟩ := hu.form
 unfold maxLen at hm1
 have C1 := κ c1
 have HBD := κ hb
 have HC := κ (fun wx (hx : Below w.heap.size w wx) => checkR_c M T R B x (.slice ao H.length cap) H (by omega) (by omega) (by omega) wx (hu.below hx (ρ _)) (fun h hh => by have := hb h hh; omega))
 have hno := printM_no ⟨us M, us T, x, us R, H, us B⟩
 have hlo := printM_long ⟨us M, us T, x, us R, H, us B⟩
 have hye := printM_yes ⟨us M, us T, x, us R, H, us B⟩
 have hcl := check_len ⟨us M, us T, x, us R, H, us B⟩
 have htx := textM_eq ⟨us M, us T, x, us R, H, us B⟩
 have hsm := startL_m ⟨us M, us T, x, us R, H, us B⟩
 have hsr := startL_r ⟨us M, us T, x, us R, H, us B⟩
 clear c1 hu hb
 have hB0 : Below w.heap.size w (w.alloc (.cells #[.string M, .string T, .int .i64 x, .string R, .slice ao H.length cap, .string B] 45)) := (Below.refl _ _).alloc (ρ _) _
 obtain ⟨w0, hw0⟩ : ∃ w0, w0 = w.alloc (.cells #[.string M, .string T, .int .i64 x, .string R, .slice ao H.length cap, .string B] 45) := ⟨_, rfl⟩
 have bm : Blk w0 w.heap.size 45 #[.string M, .string T, .int .i64 x, .string R, .slice ao H.length cap, .string B] := by rw [hw0]; exact Blk.new _ _ _
 rw [← hw0] at hB0
 have HW0 := κ hw0.symm
 clear hw0
 obtain ⟨_, _, _, _, _, _, f0, f1, f2, f3, f4, f5, z2⟩ := bm.g6
 have h32 : (⟨#[32]⟩ : ByteArray).size = 1 := rfl
 have hcr : (⟨#[13, 10]⟩ : ByteArray).size = 2 := rfl
 have hver : (⟨#[83, 73, 80, 47, 50, 46, 48]⟩ : ByteArray).size = 7 := rfl
 have hver2 : (⟨#[83, 73, 80, 47, 50, 46, 48, 32]⟩ : ByteArray).size = 8 := rfl
 have hcln : (⟨#[67, 111, 110, 116, 101, 110, 116, 45, 76, 101, 110, 103, 116, 104, 58, 32]⟩ : ByteArray).size = 16 := rfl
 have hcr4 : (⟨#[13, 10, 13, 10]⟩ : ByteArray).size = 4 := rfl
 have hcol : (⟨#[58, 32]⟩ : ByteArray).size = 2 := rfl
 obtain ⟨C, hCd⟩ : ∃ C, C = checkS ⟨us M, us T, x, us R, H, us B⟩ := ⟨_, rfl⟩
 rw [← hCd] at HC hno hlo hye hcl
 by_cases hc0 : C = 0
 case neg =>
  have HE := κ (hno hc0)
  have t0 : (C != 0) = true := by simpa using hc0
  clear hno hlo hye hcl htx hsm hsr hCd hc0
  go_enter Tryz.func76, Tryz.ntmps76
  go_wp2_with (go_at_call 139; (try rw [HW0.out]); refine (HC.out _ hB0).mono ?_; rintro e w1 ⟨rfl, hC⟩; have hB0 := hB0.trans (hC.mono hB0.size); have bm := bm.call hC; obtain ⟨_, _, _, _, _, _, f0, f1, f2, f3, f4, f5, z2⟩ := bm.g6)
  go_ret2
  exact ⟨by rw [HE.out]; rfl, hB0⟩
 subst hc0
 have h64 := hcl rfl
 have HLO := κ (hlo rfl)
 have HYE := κ (hye rfl)
 have htl := fun d => tail_us d B (B.size : Int)
 have HTX := κ htx
 have D1 := κ (fun wx => digitsR_c x x0 x1 wx)
 have D2 := κ (fun wx => digitsR_c (B.size : Int) (by omega) (by omega) wx)
 have l1 : (bs (digits x)).size ≤ 20 := by rw [size_bs]; exact digits_len x
 have l2 : (bs (digits (B.size : Int))).size ≤ 20 := by rw [size_bs]; exact digits_len (B.size : Int)
 have uB : (B.size : Int) = ((us B).length : Int) := by rw [length_us]
 have u1 := us_bs (digits x)
 have u2 := us_bs (digits (B.size : Int))
 obtain ⟨d1, hd1⟩ : ∃ d, d = bs (digits x) := ⟨_, rfl⟩
 obtain ⟨d2, hd2⟩ : ∃ d, d = bs (digits (B.size : Int)) := ⟨_, rfl⟩
 rw [← hd1] at D1 l1 u1
 rw [← hd2] at D2 l2 u2
 clear hd1 hd2 hcl hno hlo hye htx hsm hsr hCd
 have hmz : us M = [] ↔ M.size = 0 := by rw [← length_us, List.length_eq_zero_iff]
 by_cases hmm : M.size = 0
 case neg =>
  have HST := κ (startM_us M T x (us R) H (us B) (fun e => hmm (hmz.1 e)))
  have pE := ne_empty hmm
  have pF := isEmpty_f hmm
  clear hmz hmm
  go_enter Tryz.func76, Tryz.ntmps76
  go_wp2_with (go_at_call 139; (try rw [HW0.out]); refine (HC.out _ hB0).mono ?_; rintro e w1 ⟨rfl, hC⟩; have hB0 := hB0.trans (hC.mono hB0.size); have bm := bm.call hC; obtain ⟨_, _, _, _, _, _, f0, f1, f2, f3, f4, f5, z2⟩ := bm.g6)
  obtain ⟨ST, hSTd⟩ : ∃ ST, ST = us (M ++ ⟨#[32]⟩ ++ T ++ ⟨#[32]⟩ ++ ⟨#[83, 73, 80, 47, 50, 46, 48]⟩ ++ ⟨#[13, 10]⟩) := ⟨_, rfl⟩
  rw [← hSTd] at HST
  have hSTl : ST.length ≤ 4294967296 := by rw [hSTd, length_us]; simp only [size_cat, h32, hcr, hver]; omega
  have M4 := κ (fun (wx : World) (h : Drn w1 wx) => (boxedCell (bm.call h.below) 4 : wx.cell? ⟨w.heap.size, 4, none⟩ = some (.slice ao H.length cap)))
  have M5 := κ (fun (wx : World) (h : Drn w1 wx) => (boxedCell (bm.call h.below) 5 : wx.cell? ⟨w.heap.size, 5, none⟩ = some (.string B)))
  clear f0 f1 f2 f3 f4 f5
  go_loopw [5, 4] (fun i s wr => ∃ (k : Nat) (S : ByteArray), k ≤ H.length ∧ i = .int .i64 k ∧ s = .string S ∧ us S = ST ++ (H.take k).flatMap lineH ∧ Drn w1 wr) (fun i _ _ => H.length - (intOf i).toNat)
  case atStart => exact ⟨0, _, Nat.zero_le _, rfl, rfl, by rw [hSTd]; simp, by first | exact Drn.refl _ | exact ⟨_, rfl⟩⟩
  case round =>
   obtain ⟨k, S, hk, rfl, rfl, hL, hD⟩ := hrel
   clear hSTd
   have hBw : Below w.heap.size w wr := hB0.trans hD.below
   have m4 := M4.out wr hD
   have m5 := M5.out wr hD
   by_cases hlt : k < H.length
   ·obtain ⟨b, off, rfl, hbl, hc1⟩ := C1.out (by omega)
    obtain ⟨hbn, hbv⟩ := HBD.out _ (List.getElem_mem hlt)
    obtain ⟨N, hN⟩ : ∃ N, N = bs H[k].name := ⟨_, rfl⟩
    obtain ⟨V, hV⟩ : ∃ N, N = bs H[k].value := ⟨_, rfl⟩
    have x0 : wr.cell? ⟨b, off + k * 2, none⟩ = some (.string N) := by
     rw [hBw.cell (p := ⟨b, off + k * 2, none⟩) hbl, hN]; exact (hc1 k hlt).1
    have x1 : wr.cell? ⟨b, off + k * 2 + 1, none⟩ = some (.string V) := by
     rw [hBw.cell (p := ⟨b, off + k * 2 + 1, none⟩) hbl, hV]; exact (hc1 k hlt).2
    have hNs : N.size ≤ 1073741824 := by rw [hN, size_bs]; exact hbn
    have hVs : V.size ≤ 1073741824 := by rw [hV, size_bs]; exact hbv
    have k0 : (0 : Int) ≤ (k : Int) := by omega
    have k1 : (k : Int) < (H.length : Int) := by omega
    have hfl := flatH_le (H.take k) (fun h hh => HBD.out h (List.mem_of_mem_take hh))
    rw [List.length_take, Nat.min_eq_left (by omega)] at hfl
    have hln := lineH_us N V H[k] (by rw [hN, us_bs]) (by rw [hV, us_bs])
    have hnx := flatH_next H k hlt
    rw [← hln] at hnx
    have HNX := κ (show us (S ++ N ++ ⟨#[58, 32]⟩ ++ V ++ ⟨#[13, 10]⟩) = ST ++ (H.take (k + 1)).flatMap lineH by rw [hnx, ← List.append_assoc, ← hL]; simp only [us_cat, List.append_assoc])
    have hSs : S.size ≤ 200000000000 := by rw [← length_us, hL, List.length_append]; omega
    clear hN hV hc1 hbl hbn hbv hfl hln hnx hL
    go_wp2
    go_quiet (fail)
    go_wp2
    go_roundw
    case rel => exact ⟨k + 1, _, by omega, by go_num, rfl, HNX.out, hD.step _⟩
    case measure => simp [intOf]; omega
   ·have hkl : ¬ ((k : Int) < (H.length : Int)) := by omega
    have hk' : k = H.length := by omega
    have hfl := flatH_le H (fun h hh => HBD.out h hh)
    have hfin : us (S ++ ⟨#[67, 111, 110, 116, 101, 110, 116, 45, 76, 101, 110, 103, 116, 104, 58, 32]⟩ ++ d2 ++ ⟨#[13, 10]⟩ ++ ⟨#[13, 10]⟩ ++ B) = textM ⟨us M, us T, x, us R, H, us B⟩ := by
     rw [HTX.out, ← HST.out, ← hk', ← hL, ← htl d2 u2 uB]
     rw [show (⟨#[13, 10, 13, 10]⟩ : ByteArray) = ⟨#[13, 10]⟩ ++ ⟨#[13, 10]⟩ from rfl]
     simp only [us_cat, List.append_assoc]
    have hSs : S.size ≤ 200000000000 := by rw [← length_us, hL, hk', List.take_length, List.length_append]; omega
    obtain ⟨TX, hTX⟩ : ∃ TX, TX = textM ⟨us M, us T, x, us R, H, us B⟩ := ⟨_, rfl⟩
    rw [← hTX] at hfin HLO HYE
    have hsz : S.size + 16 + d2.size + 2 + 2 + B.size = TX.length := by rw [← hfin, length_us]; simp only [size_cat, hcln, hcr]
    have HFIN := κ hfin
    clear hfin hL hfl hTX HTX hk'
    go_wp2
    go_quiet ((go_at_call 136; exact Calls.quiet_of (D2.out _)))
    by_cases h4 : 4096 < TX.length
    ·have HE := κ (HLO.out h4)
     have t4 : (4096 : Int) < (S.size : Int) + 16 + (d2.size : Int) + 2 + 2 + (B.size : Int) := by omega
     clear h4 hsz
     go_wp2
     go_ret2
     exact ⟨by rw [HE.out]; rfl, hBw.trans (Drn.below ⟨_, rfl⟩)⟩
    ·have HE := κ (HYE.out h4)
     have t4 : ¬ ((4096 : Int) < (S.size : Int) + 16 + (d2.size : Int) + 2 + 2 + (B.size : Int)) := by omega
     clear h4 hsz
     go_wp2
     go_ret2
     exact ⟨by rw [HE.out, ← HFIN.out]; dsimp only; rw [bs_us]; rfl, hBw.trans (Drn.below ⟨_, rfl⟩)⟩
 ·have HST := κ (startR_us M d1 R (us T) x H (us B) (hmz.2 hmm) u1)
  obtain rfl : M = ⟨#[]⟩ := eq_empty hmm
  clear hmz hmm
  go_enter Tryz.func76, Tryz.ntmps76
  go_wp2_with (go_at_call 139; (try rw [HW0.out]); refine (HC.out _ hB0).mono ?_; rintro e w1 ⟨rfl, hC⟩; have hB0 := hB0.trans (hC.mono hB0.size); have bm := bm.call hC; obtain ⟨_, _, _, _, _, _, f0, f1, f2, f3, f4, f5, z2⟩ := bm.g6)
  go_quiet ((go_at_call 136; exact Calls.quiet_of (D1.out _)))
  go_wp2
  obtain ⟨ST, hSTd⟩ : ∃ ST, ST = us (⟨#[83, 73, 80, 47, 50, 46, 48, 32]⟩ ++ d1 ++ ⟨#[32]⟩ ++ R ++ ⟨#[13, 10]⟩) := ⟨_, rfl⟩
  rw [← hSTd] at HST
  have hSTl : ST.length ≤ 4294967296 := by rw [hSTd, length_us]; simp only [size_cat, h32, hcr, hver2]; omega
  have M4 := κ (fun (wx : World) (h : Drn w1 wx) => (boxedCell (bm.call h.below) 4 : wx.cell? ⟨w.heap.size, 4, none⟩ = some (.slice ao H.length cap)))
  have M5 := κ (fun (wx : World) (h : Drn w1 wx) => (boxedCell (bm.call h.below) 5 : wx.cell? ⟨w.heap.size, 5, none⟩ = some (.string B)))
  clear f0 f1 f2 f3 f4 f5
  go_loopw [5, 4] (fun i s wr => ∃ (k : Nat) (S : ByteArray), k ≤ H.length ∧ i = .int .i64 k ∧ s = .string S ∧ us S = ST ++ (H.take k).flatMap lineH ∧ Drn w1 wr) (fun i _ _ => H.length - (intOf i).toNat)
  case atStart => exact ⟨0, _, Nat.zero_le _, rfl, rfl, by rw [hSTd]; simp, by first | exact Drn.refl _ | exact ⟨_, rfl⟩⟩
  case round =>
   obtain ⟨k, S, hk, rfl, rfl, hL, hD⟩ := hrel
   clear hSTd
   have hBw : Below w.heap.size w wr := hB0.trans hD.below
   have m4 := M4.out wr hD
   have m5 := M5.out wr hD
   by_cases hlt : k < H.length
   ·obtain ⟨b, off, rfl, hbl, hc1⟩ := C1.out (by omega)
    obtain ⟨hbn, hbv⟩ := HBD.out _ (List.getElem_mem hlt)
    obtain ⟨N, hN⟩ : ∃ N, N = bs H[k].name := ⟨_, rfl⟩
    obtain ⟨V, hV⟩ : ∃ N, N = bs H[k].value := ⟨_, rfl⟩
    have x0 : wr.cell? ⟨b, off + k * 2, none⟩ = some (.string N) := by
     rw [hBw.cell (p := ⟨b, off + k * 2, none⟩) hbl, hN]; exact (hc1 k hlt).1
    have x1 : wr.cell? ⟨b, off + k * 2 + 1, none⟩ = some (.string V) := by
     rw [hBw.cell (p := ⟨b, off + k * 2 + 1, none⟩) hbl, hV]; exact (hc1 k hlt).2
    have hNs : N.size ≤ 1073741824 := by rw [hN, size_bs]; exact hbn
    have hVs : V.size ≤ 1073741824 := by rw [hV, size_bs]; exact hbv
    have k0 : (0 : Int) ≤ (k : Int) := by omega
    have k1 : (k : Int) < (H.length : Int) := by omega
    have hfl := flatH_le (H.take k) (fun h hh => HBD.out h (List.mem_of_mem_take hh))
    rw [List.length_take, Nat.min_eq_left (by omega)] at hfl
    have hln := lineH_us N V H[k] (by rw [hN, us_bs]) (by rw [hV, us_bs])
    have hnx := flatH_next H k hlt
    rw [← hln] at hnx
    have HNX := κ (show us (S ++ N ++ ⟨#[58, 32]⟩ ++ V ++ ⟨#[13, 10]⟩) = ST ++ (H.take (k + 1)).flatMap lineH by rw [hnx, ← List.append_assoc, ← hL]; simp only [us_cat, List.append_assoc])
    have hSs : S.size ≤ 200000000000 := by rw [← length_us, hL, List.length_append]; omega
    clear hN hV hc1 hbl hbn hbv hfl hln hnx hL
    go_wp2
    go_quiet (fail)
    go_wp2
    go_roundw
    case rel => exact ⟨k + 1, _, by omega, by go_num, rfl, HNX.out, hD.step _⟩
    case measure => simp [intOf]; omega
   ·have hkl : ¬ ((k : Int) < (H.length : Int)) := by omega
    have hk' : k = H.length := by omega
    have hfl := flatH_le H (fun h hh => HBD.out h hh)
    have hfin : us (S ++ ⟨#[67, 111, 110, 116, 101, 110, 116, 45, 76, 101, 110, 103, 116, 104, 58, 32]⟩ ++ d2 ++ ⟨#[13, 10]⟩ ++ ⟨#[13, 10]⟩ ++ B) = textM ⟨us ⟨#[]⟩, us T, x, us R, H, us B⟩ := by
     rw [HTX.out, ← HST.out, ← hk', ← hL, ← htl d2 u2 uB]
     rw [show (⟨#[13, 10, 13, 10]⟩ : ByteArray) = ⟨#[13, 10]⟩ ++ ⟨#[13, 10]⟩ from rfl]
     simp only [us_cat, List.append_assoc]
    have hSs : S.size ≤ 200000000000 := by rw [← length_us, hL, hk', List.take_length, List.length_append]; omega
    obtain ⟨TX, hTX⟩ : ∃ TX, TX = textM ⟨us ⟨#[]⟩, us T, x, us R, H, us B⟩ := ⟨_, rfl⟩
    rw [← hTX] at hfin HLO HYE
    have hsz : S.size + 16 + d2.size + 2 + 2 + B.size = TX.length := by rw [← hfin, length_us]; simp only [size_cat, hcln, hcr]
    have HFIN := κ hfin
    clear hfin hL hfl hTX HTX hk'
    go_wp2
    go_quiet ((go_at_call 136; exact Calls.quiet_of (D2.out _)))
    by_cases h4 : 4096 < TX.length
    ·have HE := κ (HLO.out h4)
     have t4 : (4096 : Int) < (S.size : Int) + 16 + (d2.size : Int) + 2 + 2 + (B.size : Int) := by omega
     clear h4 hsz
     go_wp2
     go_ret2
     exact ⟨by rw [HE.out]; rfl, hBw.trans (Drn.below ⟨_, rfl⟩)⟩
    ·have HE := κ (HYE.out h4)
     have t4 : ¬ ((4096 : Int) < (S.size : Int) + 16 + (d2.size : Int) + 2 + 2 + (B.size : Int)) := by omega
     clear h4 hsz
     go_wp2
     go_ret2
     exact ⟨by rw [HE.out, ← HFIN.out]; dsimp only; rw [bs_us]; rfl, hBw.trans (Drn.below ⟨_, rfl⟩)⟩
end Go.Proofs.YtipdiddjhimdcaaGreatDoor
