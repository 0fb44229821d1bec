/-
  rosterref03.Check, Print.
-/
import Derived.Test.YtjpmfcipjaeemaaGreatDoorUrz
import Derived.Test.YtjpmfcipjaeemaaGreatDoorUpr
namespace Go.Proofs.YtjpmfcipjaeemaaGreatDoor
set_option linter.unusedSimpArgs false
set_option linter.unusedVariables false
open Go.RowKit Go.Sort


set_option maxRecDepth 100000 in
set_option maxHeartbeats 6400000 in
theorem checkUR_c (S U H : ByteArray) (n : Int) (u1 u2 : Value) (F G : List Prm) (hS : S.size ≤ 4294967280) (hH : H.size ≤ 4294967280) (w : World) (h1 : RPrms w u1 F) (h2 : RPrms w u2 G) (hb1 : ∀ p ∈ F, p.name.length ≤ 4294967280 ∧ p.value.length ≤ 4294967280) (hb2 : ∀ p ∈ G, p.name.length ≤ 4294967280 ∧ p.value.length ≤ 4294967280) :
    Calls Tryz.prog 19 #[.agg #[.string S, .string U, .string H, .int .i64 n, u1, u2]] w fun e w' => e = .returned (.int .i64 (checkU ⟨us S, us U, us H, n, F, G⟩)) ∧ Below w.heap.size w w' := by
  have HS := Lib.hid (fun wx => schemeR_c S wx)
  have HH := Lib.hid (fun wx => hostR_c H hH wx)
  have HU1 := Lib.hid h1
  have HU2 := Lib.hid h2
  
  obtain ⟨ao, ac, rfl, hm1, c1⟩ := h1.form
  obtain ⟨bo, bc, rfl, hm2, c2⟩ := h2.form
  have C2 := Lib.hid c2
  have HL1 := Lib.hid (fun wx hx => listR_c' (.slice ao F.length ac) F wx hx hb1)
  have HL2 := Lib.hid (fun wx hx => listR_c' (.slice bo G.length bc) G wx hx hb2)
  unfold maxLen at hm2
  have hcs := checkU_cases S U H n F G
  obtain ⟨C, hC⟩ : ∃ C, C = checkU ⟨us S, us U, us H, n, F, G⟩ := ⟨_, rfl⟩
  rw [← hC] at hcs ⊢
  clear hC c1 c2 h1 h2 hm1 hb1 hb2
  have hB0 : Below w.heap.size w (w.alloc (.cells #[.string S, .string U, .string H, .int .i64 n, .slice ao F.length ac, .slice bo G.length bc] 24)) := (Below.refl _ _).alloc (Nat.le_refl _) _
  have bm0 := Blk.new w 24 #[.string S, .string U, .string H, .int .i64 n, .slice ao F.length ac, .slice bo G.length bc]
  obtain ⟨w0, hw0⟩ : ∃ w0, w0 = w.alloc (.cells #[.string S, .string U, .string H, .int .i64 n, .slice ao F.length ac, .slice bo G.length bc] 24) := ⟨_, rfl⟩
  rw [← hw0] at hB0 bm0
  have HX := Lib.hid (fun (wx : World) (h : Below w0.heap.size w0 wx) => (show Blk wx w.heap.size 24 #[.string S, .string U, .string H, .int .i64 n, .slice ao F.length ac, .slice bo G.length bc] ∧ Below w.heap.size w wx ∧ True ∧ RPrms wx (.slice ao F.length ac) F ∧ RPrms wx (.slice bo G.length bc) G from by
    have hx := hB0.trans (h.mono hB0.size)
    exact ⟨bm0.call h, hx, trivial, HU1.out.below hx (Nat.le_refl _), HU2.out.below hx (Nat.le_refl _)⟩))
  have HW0 := Lib.hid hw0
  have hZ : Below w0.heap.size w0 w0 := Below.refl _ _
  obtain ⟨bm, hBB, hMM, hU1, hU2⟩ := HX.out _ hZ
  obtain ⟨p0, p1, p2, p3, p4, p5⟩ := blk_f6 bm
  clear hw0 bm0 hB0
  rcases hcs with ⟨s1, hC⟩ | ⟨s1, s2, hC⟩ | ⟨s1, s2, s3, hC⟩ | ⟨s1, s2, s3, s4, hC⟩ | ⟨s1, s2, s3, s4, s5, hC⟩ | ⟨s1, s2, s3, s4, s5, s6, hC⟩ | ⟨s1, s2, s3, s4, s5, s6, s7, hC⟩ | ⟨s1, s2, s3, s4, s5, s6, s7, hC⟩
  · rw [s1] at HS
    clear s1
    have HC := Lib.hid hC
    clear hC
    go_enter Tryz.func19, Tryz.ntmps19
    go_wp2_with (first | (go_at_call 49; (try rw [← HW0.out]); refine (HS.out _).mono ?_; rintro e wx ⟨rfl, rfl⟩) | (go_at_call 50; refine (HH.out _).mono ?_; rintro e w1 ⟨rfl, hC1⟩; have hZ := hZ.trans (hC1.mono hZ.size); obtain ⟨bm, hBB, hMM, hU1, hU2⟩ := HX.out _ hZ; obtain ⟨p0, p1, p2, p3, p4, p5⟩ := blk_f6 bm) | (go_at_call 51; (first | ((with_reducible refine (HL1.out _ hU1).mono ?_); rintro e w2 ⟨rfl, hC2⟩) | ((with_reducible refine (HL2.out _ hU2).mono ?_); rintro e w2 ⟨rfl, hC2⟩)); have hZ := hZ.trans (hC2.mono hZ.size); obtain ⟨bm, hBB, hMM, hU1, hU2⟩ := HX.out _ hZ; obtain ⟨p0, p1, p2, p3, p4, p5⟩ := blk_f6 bm))
    go_ret
    exact ⟨ret_int HC.out.symm, hBB⟩
  · rw [s1] at HS
    clear s1
    have HC := Lib.hid hC
    clear hC
    go_enter Tryz.func19, Tryz.ntmps19
    go_wp2_with (first | (go_at_call 49; (try rw [← HW0.out]); refine (HS.out _).mono ?_; rintro e wx ⟨rfl, rfl⟩) | (go_at_call 50; refine (HH.out _).mono ?_; rintro e w1 ⟨rfl, hC1⟩; have hZ := hZ.trans (hC1.mono hZ.size); obtain ⟨bm, hBB, hMM, hU1, hU2⟩ := HX.out _ hZ; obtain ⟨p0, p1, p2, p3, p4, p5⟩ := blk_f6 bm) | (go_at_call 51; (first | ((with_reducible refine (HL1.out _ hU1).mono ?_); rintro e w2 ⟨rfl, hC2⟩) | ((with_reducible refine (HL2.out _ hU2).mono ?_); rintro e w2 ⟨rfl, hC2⟩)); have hZ := hZ.trans (hC2.mono hZ.size); obtain ⟨bm, hBB, hMM, hU1, hU2⟩ := HX.out _ hZ; obtain ⟨p0, p1, p2, p3, p4, p5⟩ := blk_f6 bm))
    go_ret
    exact ⟨ret_int HC.out.symm, hBB⟩
  · rw [s1] at HS
    rw [s3] at HH
    clear s1 s3
    have HC := Lib.hid hC
    clear hC
    go_enter Tryz.func19, Tryz.ntmps19
    go_wp2_with (first | (go_at_call 49; (try rw [← HW0.out]); refine (HS.out _).mono ?_; rintro e wx ⟨rfl, rfl⟩) | (go_at_call 50; refine (HH.out _).mono ?_; rintro e w1 ⟨rfl, hC1⟩; have hZ := hZ.trans (hC1.mono hZ.size); obtain ⟨bm, hBB, hMM, hU1, hU2⟩ := HX.out _ hZ; obtain ⟨p0, p1, p2, p3, p4, p5⟩ := blk_f6 bm) | (go_at_call 51; (first | ((with_reducible refine (HL1.out _ hU1).mono ?_); rintro e w2 ⟨rfl, hC2⟩) | ((with_reducible refine (HL2.out _ hU2).mono ?_); rintro e w2 ⟨rfl, hC2⟩)); have hZ := hZ.trans (hC2.mono hZ.size); obtain ⟨bm, hBB, hMM, hU1, hU2⟩ := HX.out _ hZ; obtain ⟨p0, p1, p2, p3, p4, p5⟩ := blk_f6 bm))
    go_ret
    exact ⟨ret_int HC.out.symm, hBB⟩
  · rw [s1] at HS
    rw [s3] at HH
    have HC := Lib.hid hC
    clear s1 s3 hC
    by_cases n0 : n < 0
    · clear s4
      go_enter Tryz.func19, Tryz.ntmps19
      go_wp2_with (first | (go_at_call 49; (try rw [← HW0.out]); refine (HS.out _).mono ?_; rintro e wx ⟨rfl, rfl⟩) | (go_at_call 50; refine (HH.out _).mono ?_; rintro e w1 ⟨rfl, hC1⟩; have hZ := hZ.trans (hC1.mono hZ.size); obtain ⟨bm, hBB, hMM, hU1, hU2⟩ := HX.out _ hZ; obtain ⟨p0, p1, p2, p3, p4, p5⟩ := blk_f6 bm) | (go_at_call 51; (first | ((with_reducible refine (HL1.out _ hU1).mono ?_); rintro e w2 ⟨rfl, hC2⟩) | ((with_reducible refine (HL2.out _ hU2).mono ?_); rintro e w2 ⟨rfl, hC2⟩)); have hZ := hZ.trans (hC2.mono hZ.size); obtain ⟨bm, hBB, hMM, hU1, hU2⟩ := HX.out _ hZ; obtain ⟨p0, p1, p2, p3, p4, p5⟩ := blk_f6 bm))
      go_ret
      exact ⟨ret_int HC.out.symm, hBB⟩
    · have n1 : 65535 < n := by omega
      clear s4
      go_enter Tryz.func19, Tryz.ntmps19
      go_wp2_with (first | (go_at_call 49; (try rw [← HW0.out]); refine (HS.out _).mono ?_; rintro e wx ⟨rfl, rfl⟩) | (go_at_call 50; refine (HH.out _).mono ?_; rintro e w1 ⟨rfl, hC1⟩; have hZ := hZ.trans (hC1.mono hZ.size); obtain ⟨bm, hBB, hMM, hU1, hU2⟩ := HX.out _ hZ; obtain ⟨p0, p1, p2, p3, p4, p5⟩ := blk_f6 bm) | (go_at_call 51; (first | ((with_reducible refine (HL1.out _ hU1).mono ?_); rintro e w2 ⟨rfl, hC2⟩) | ((with_reducible refine (HL2.out _ hU2).mono ?_); rintro e w2 ⟨rfl, hC2⟩)); have hZ := hZ.trans (hC2.mono hZ.size); obtain ⟨bm, hBB, hMM, hU1, hU2⟩ := HX.out _ hZ; obtain ⟨p0, p1, p2, p3, p4, p5⟩ := blk_f6 bm))
      go_ret
      exact ⟨ret_int HC.out.symm, hBB⟩
  · rw [s1] at HS
    rw [s3] at HH
    rw [s5] at HL1
    clear s1 s3 s5
    have n0 : ¬ n < 0 := by omega
    have n1 : ¬ 65535 < n := by omega
    clear s4
    have HC := Lib.hid hC
    clear hC
    go_enter Tryz.func19, Tryz.ntmps19
    go_wp2_with (first | (go_at_call 49; (try rw [← HW0.out]); refine (HS.out _).mono ?_; rintro e wx ⟨rfl, rfl⟩) | (go_at_call 50; refine (HH.out _).mono ?_; rintro e w1 ⟨rfl, hC1⟩; have hZ := hZ.trans (hC1.mono hZ.size); obtain ⟨bm, hBB, hMM, hU1, hU2⟩ := HX.out _ hZ; obtain ⟨p0, p1, p2, p3, p4, p5⟩ := blk_f6 bm) | (go_at_call 51; (first | ((with_reducible refine (HL1.out _ hU1).mono ?_); rintro e w2 ⟨rfl, hC2⟩) | ((with_reducible refine (HL2.out _ hU2).mono ?_); rintro e w2 ⟨rfl, hC2⟩)); have hZ := hZ.trans (hC2.mono hZ.size); obtain ⟨bm, hBB, hMM, hU1, hU2⟩ := HX.out _ hZ; obtain ⟨p0, p1, p2, p3, p4, p5⟩ := blk_f6 bm))
    go_ret
    exact ⟨ret_int HC.out.symm, hBB⟩
  · rw [s1] at HS
    rw [s3] at HH
    rw [s5] at HL1
    rw [s6] at HL2
    clear s1 s3 s5 s6
    have n0 : ¬ n < 0 := by omega
    have n1 : ¬ 65535 < n := by omega
    clear s4
    have HC := Lib.hid hC
    clear hC
    go_enter Tryz.func19, Tryz.ntmps19
    go_wp2_with (first | (go_at_call 49; (try rw [← HW0.out]); refine (HS.out _).mono ?_; rintro e wx ⟨rfl, rfl⟩) | (go_at_call 50; refine (HH.out _).mono ?_; rintro e w1 ⟨rfl, hC1⟩; have hZ := hZ.trans (hC1.mono hZ.size); obtain ⟨bm, hBB, hMM, hU1, hU2⟩ := HX.out _ hZ; obtain ⟨p0, p1, p2, p3, p4, p5⟩ := blk_f6 bm) | (go_at_call 51; (first | ((with_reducible refine (HL1.out _ hU1).mono ?_); rintro e w2 ⟨rfl, hC2⟩) | ((with_reducible refine (HL2.out _ hU2).mono ?_); rintro e w2 ⟨rfl, hC2⟩)); have hZ := hZ.trans (hC2.mono hZ.size); obtain ⟨bm, hBB, hMM, hU1, hU2⟩ := HX.out _ hZ; obtain ⟨p0, p1, p2, p3, p4, p5⟩ := blk_f6 bm))
    go_ret
    exact ⟨ret_int HC.out.symm, hBB⟩
  all_goals
    rw [s1] at HS
    rw [s3] at HH
    rw [s5] at HL1
    rw [s6] at HL2
    clear s1 s3 s5 s6
    have n0 : ¬ n < 0 := by omega
    have n1 : ¬ 65535 < n := by omega
    clear s4
    have HC := Lib.hid hC
    clear hC
    have HG := Lib.hid s7
    clear s7
    go_enter Tryz.func19, Tryz.ntmps19
    go_wp2_with (first | (go_at_call 49; (try rw [← HW0.out]); refine (HS.out _).mono ?_; rintro e wx ⟨rfl, rfl⟩) | (go_at_call 50; refine (HH.out _).mono ?_; rintro e w1 ⟨rfl, hC1⟩; have hZ := hZ.trans (hC1.mono hZ.size); obtain ⟨bm, hBB, hMM, hU1, hU2⟩ := HX.out _ hZ; obtain ⟨p0, p1, p2, p3, p4, p5⟩ := blk_f6 bm) | (go_at_call 51; (first | ((with_reducible refine (HL1.out _ hU1).mono ?_); rintro e w2 ⟨rfl, hC2⟩) | ((with_reducible refine (HL2.out _ hU2).mono ?_); rintro e w2 ⟨rfl, hC2⟩)); have hZ := hZ.trans (hC2.mono hZ.size); obtain ⟨bm, hBB, hMM, hU1, hU2⟩ := HX.out _ hZ; obtain ⟨p0, p1, p2, p3, p4, p5⟩ := blk_f6 bm))
    go_loopw [3] (fun i wr => ∃ k : Nat, k ≤ G.length ∧ i = .int .i64 k ∧ Below w0.heap.size w0 wr ∧ Hid ((G.take k).all (fun h => h.has) = true)) (fun i _ => G.length - (intOf i).toNat)
    case atStart => exact ⟨0, Nat.zero_le _, rfl, hZ, Lib.hid rfl⟩
    case round =>
      obtain ⟨k, hk, rfl, hZ, HP⟩ := hrel
      obtain ⟨bm, hBB, hMM, hU1, hU2⟩ := HX.out _ hZ
      obtain ⟨p0, p1, p2, p3, p4, p5⟩ := blk_f6 bm
      by_cases hlt : k < G.length
      · obtain ⟨b, off, rfl, hb1, hc1⟩ := C2.out (by omega)
        have x0 : wr.cell? ⟨b, off + k * 3, none⟩ = some (sv G[k].name) := by rw [hBB.cell (p := ⟨b, off + k * 3, none⟩) hb1]; exact (hc1 k hlt).1
        have x1 : wr.cell? ⟨b, off + k * 3 + 1, none⟩ = some (sv G[k].value) := by rw [hBB.cell (p := ⟨b, off + k * 3 + 1, none⟩) hb1]; exact (hc1 k hlt).2.1
        have x2 : wr.cell? ⟨b, off + k * 3 + 2, none⟩ = some (.bool G[k].has) := by rw [hBB.cell (p := ⟨b, off + k * 3 + 2, none⟩) hb1]; exact (hc1 k hlt).2.2
        have k0 : (0 : Int) ≤ (k : Int) := by omega
        have k1 : (k : Int) < (G.length : Int) := by omega
        have HN := Lib.hid (fun (h : G[k].has = true) => (show (G.take (k + 1)).all (fun h => h.has) = true by rw [List.take_succ_eq_append_getElem hlt, List.all_append, HP.out]; simp [h]))
        have HQ := Lib.hid (fun (h : G[k].has = false) => (show (G.all fun h => h.has) = false from by
          rw [← Bool.not_eq_true, List.all_eq_true]; intro ha; have := ha _ (List.getElem_mem hlt); rw [h] at this; cases this))
        unfold sv at x0 x1
        obtain ⟨N, hN⟩ : ∃ N, N = bs G[k].name := ⟨_, rfl⟩
        obtain ⟨V, hV⟩ : ∃ V, V = bs G[k].value := ⟨_, rfl⟩
        rw [← hN] at x0
        rw [← hV] at x1
        obtain ⟨h, hh⟩ : ∃ h, h = G[k].has := ⟨_, rfl⟩
        rw [← hh] at x2 HN HQ
        clear hc1 hb1 hN hV hh HP
        cases h
        · have hq := HQ.out rfl
          rw [HG.out] at hq
          first
            | (exact absurd hq (by decide))
            | (clear hq
               go_wp2
               go_ret
               exact ⟨ret_int HC.out.symm, by first | exact hBB | exact hBB.alloc (by have := hBB.size; omega) _⟩)
        · have HN' := Lib.hid (HN.out rfl)
          go_wp2
          go_roundw
          case rel => exact ⟨k + 1, by omega, by go_num, by first | exact hZ | exact hZ.alloc hZ.size _, HN'⟩
          case measure => simp [intOf]; omega
      · have hq := HP.out
        rw [List.take_of_length_le (by omega), HG.out] at hq
        first
          | (exact absurd hq (by decide))
          | (clear hq
             go_wp2
             go_ret
             exact ⟨ret_int HC.out.symm, hBB⟩)

set_option maxRecDepth 100000 in
set_option maxHeartbeats 12800000 in
theorem printUR_c (S U H : ByteArray) (n : Int) (u1 u2 : Value) (F G : List Prm) (hS : S.size ≤ 4294967280) (hH : H.size ≤ 4294967280) (hn0 : -9223372036854775808 ≤ n) (hn1 : n ≤ 9223372036854775807) (w : World) (h1 : RPrms w u1 F) (h2 : RPrms w u2 G) (hb1 : ∀ p ∈ F, p.name.length ≤ 4294967280 ∧ p.value.length ≤ 4294967280) (hb2 : ∀ p ∈ G, p.name.length ≤ 4294967280 ∧ p.value.length ≤ 4294967280) :
    Calls Tryz.prog 15 #[.agg #[.string S, .string U, .string H, .int .i64 n, u1, u2]] w fun e w' => e = .returned (.tuple #[.string (bs (printU ⟨us S, us U, us H, n, F, G⟩).1), .int .i64 (printU ⟨us S, us U, us H, n, F, G⟩).2]) ∧ Below w.heap.size w w' := by
  have HU1 := Lib.hid h1
  have HU2 := Lib.hid h2
  obtain ⟨ao, ac, rfl, hm1, c1⟩ := h1.form
  obtain ⟨bo, bc, rfl, hm2, c2⟩ := h2.form
  have C1 := Lib.hid c1
  have C2 := Lib.hid c2
  have HCK := Lib.hid (fun wx h1 h2 => checkUR_c S U H n (.slice ao F.length ac) (.slice bo G.length bc) F G hS hH wx h1 h2 hb1 hb2)
  have HDG := Lib.hid (fun wx => digitsR_c n hn0 hn1 wx)
  unfold maxLen at hm1 hm2
  have hpr : printU ⟨us S, us U, us H, n, F, G⟩ = if checkU ⟨us S, us U, us H, n, F, G⟩ = 0 then (textU ⟨us S, us U, us H, n, F, G⟩, 0) else ([], checkU ⟨us S, us U, us H, n, F, G⟩) := rfl
  have hpt := checkU_parts ⟨us S, us U, us H, n, F, G⟩
  have hth := textU_head ⟨us S, us U, us H, n, F, G⟩
  have hhd : headU ⟨us S, us U, us H, n, F, G⟩ = us S ++ 58 :: (userT (us U) ++ (us H ++ portT n)) := rfl
  dsimp only at hpt hth
  obtain ⟨PU, hPU⟩ : ∃ x, x = printU ⟨us S, us U, us H, n, F, G⟩ := ⟨_, rfl⟩
  rw [← hPU] at hpr ⊢
  obtain ⟨C, hC⟩ : ∃ C, C = checkU ⟨us S, us U, us H, n, F, G⟩ := ⟨_, rfl⟩
  rw [← hC] at hpr hpt HCK
  obtain ⟨TU, hTU⟩ : ∃ x, x = textU ⟨us S, us U, us H, n, F, G⟩ := ⟨_, rfl⟩
  rw [← hTU] at hpr hth
  obtain ⟨HDu, hHDu⟩ : ∃ x, x = headU ⟨us S, us U, us H, n, F, G⟩ := ⟨_, rfl⟩
  rw [← hHDu] at hth hhd
  clear hPU hC hTU hHDu c1 c2 h1 h2 hm1
  have hB0 : Below w.heap.size w (w.alloc (.cells #[.string S, .string U, .string H, .int .i64 n, .slice ao F.length ac, .slice bo G.length bc] 24)) := (Below.refl _ _).alloc (Nat.le_refl _) _
  have bm0 := Blk.new w 24 #[.string S, .string U, .string H, .int .i64 n, .slice ao F.length ac, .slice bo G.length bc]
  obtain ⟨w0, hw0⟩ : ∃ w0, w0 = w.alloc (.cells #[.string S, .string U, .string H, .int .i64 n, .slice ao F.length ac, .slice bo G.length bc] 24) := ⟨_, rfl⟩
  rw [← hw0] at hB0 bm0
  have HX := Lib.hid (fun (wx : World) (h : Below w0.heap.size w0 wx) => (show Blk wx w.heap.size 24 #[.string S, .string U, .string H, .int .i64 n, .slice ao F.length ac, .slice bo G.length bc] ∧ Below w.heap.size w wx ∧ RPrms wx (.slice ao F.length ac) F ∧ RPrms wx (.slice bo G.length bc) G from by
    have hx := hB0.trans (h.mono hB0.size)
    exact ⟨bm0.call h, hx, HU1.out.below hx (Nat.le_refl _), HU2.out.below hx (Nat.le_refl _)⟩))
  have HW0 := Lib.hid hw0
  have hZ : Below w0.heap.size w0 w0 := Below.refl _ _
  obtain ⟨bm, hBB, hU1, hU2⟩ := HX.out _ hZ
  obtain ⟨p0, p1, p2, p3, p4, p5⟩ := blk_f6 bm
  clear hw0 bm0
  by_cases hc : C = 0
  case neg =>
    rw [if_neg hc] at hpr
    have t0 : (C != 0) = true := by simpa using hc
    have HPR := Lib.hid hpr
    clear hpr hpt hth hhd hc
    go_enter Tryz.func15, Tryz.ntmps15
    go_wp2_with (go_at_call 19; (try rw [← HW0.out]); refine (HCK.out _ hU1 hU2).mono ?_; rintro e w1 ⟨rfl, hC1⟩; have hZ := hZ.trans (hC1.mono hZ.size); obtain ⟨bm, hBB, hU1, hU2⟩ := HX.out _ hZ; obtain ⟨p0, p1, p2, p3, p4, p5⟩ := blk_f6 bm)
    go_ret2
    exact ⟨ret_si (p := PU) (by rw [HPR.out]; rfl), hBB⟩
  obtain ⟨s1, u64, h1', n0, n1, l1, l2, hall⟩ := hpt hc
  subst hc
  rw [if_pos rfl] at hpr
  obtain ⟨_, _, s4, _, _⟩ := scheme_facts _ s1
  have h64 := (host_low _ h1').2.2
  rw [length_us] at s4 u64 h64
  have hF := (listU_ok l1)
  have hG := (listU_ok l2)
  have hpT := fun k => psT_le (F.take k) (fun p hp => ⟨(hF.2 p (List.mem_of_mem_take hp)).2.1, (hF.2 p (List.mem_of_mem_take hp)).2.2.1⟩)
  have hgT := fun k => hsT_le (G.take k) (fun p hp => ⟨(hG.2 p (List.mem_of_mem_take hp)).2.1, (hG.2 p (List.mem_of_mem_take hp)).2.2.1⟩)
  have hF16 := hF.1
  have hG16 := hG.1
  have hFl := Lib.hid (fun p hp => (hF.2 p hp).2)
  have hGl := Lib.hid (fun p hp => (hG.2 p hp).2)
  have HPT := Lib.hid hpT
  have HGT := Lib.hid hgT
  have HPR := Lib.hid hpr
  have HTH := Lib.hid hth
  have HEU := Lib.hid (fun wx => escapeR_c U ⟨#[38, 61, 43, 36, 44, 59, 63, 47]⟩ (by omega) (by decide) wx)
  rw [show us ⟨#[38, 61, 43, 36, 44, 59, 63, 47]⟩ = kUsers from rfl] at HEU
  have hel := escape_le (us U) kUsers
  rw [length_us] at hel
  have hut : userT (us U) = if us U = [] then [] else escape (us U) kUsers ++ [64] := rfl
  have hpo : portT n = if 0 < n then 58 :: digits n else [] := rfl
  have hpl := portT_len n
  rw [hpo] at hpl
  rw [hut, hpo] at hhd
  obtain ⟨EU, hEU⟩ : ∃ x, x = bs (escape (us U) kUsers) := ⟨_, rfl⟩
  have uEU : escape (us U) kUsers = us EU := by rw [hEU, us_bs]
  rw [← hEU] at HEU
  rw [uEU] at hhd hel
  rw [length_us] at hel
  obtain ⟨DG, hDG⟩ : ∃ x, x = bs (digits n) := ⟨_, rfl⟩
  have uDG : digits n = us DG := by rw [hDG, us_bs]
  rw [← hDG] at HDG
  rw [uDG] at hhd hpl
  have hunil : us U = [] ↔ U.size = 0 := by rw [← length_us, List.length_eq_zero_iff]
  clear hpr hpt hth hall hF hG hpT hgT s1 h1' l1 l2 hut hpo hEU uEU hDG uDG
  have e1 : (⟨#[58]⟩ : ByteArray).size = 1 := rfl
  have e2 : (⟨#[64]⟩ : ByteArray).size = 1 := rfl
  have e3 : (⟨#[59]⟩ : ByteArray).size = 1 := rfl
  have e4 : (⟨#[63]⟩ : ByteArray).size = 1 := rfl
  have e5 : (⟨#[38]⟩ : ByteArray).size = 1 := rfl
  have n2 : (0 : Int) ≤ n := n0
  by_cases hu : U.size = 0 <;> by_cases hp : 0 < n
  · rw [if_pos (hunil.2 hu)] at hhd
    obtain rfl := eq_empty hu
    clear hu hunil
    rw [if_pos hp] at hhd hpl
    rw [List.length_cons, length_us] at hpl
    have np : (n != 0) = true := by simp; omega
    have hHDl : HDu.length ≤ 400 := by rw [hhd]; simp only [List.length_append, List.length_cons, List.length_nil, length_us]; omega
    have HHD := Lib.hid hhd
    clear hhd
    go_enter Tryz.func15, Tryz.ntmps15
    go_wp2_with (first | (go_at_call 19; (try rw [← HW0.out]); refine (HCK.out _ hU1 hU2).mono ?_; rintro e w1 ⟨rfl, hC1⟩; have hZ := hZ.trans (hC1.mono hZ.size); obtain ⟨bm, hBB, hU1, hU2⟩ := HX.out _ hZ; obtain ⟨p0, p1, p2, p3, p4, p5⟩ := blk_f6 bm) | (go_at_call 39; (with_reducible refine (HEU.out _).mono ?_); rintro e w2 ⟨rfl, hCe⟩; have hZ := hZ.trans (hCe.mono hZ.size); obtain ⟨bm, hBB, hU1, hU2⟩ := HX.out _ hZ; obtain ⟨p0, p1, p2, p3, p4, p5⟩ := blk_f6 bm) | (go_at_call 40; (with_reducible refine (HDG.out _).mono ?_); rintro e w3 ⟨rfl, hCe⟩; have hZ := hZ.trans hCe.below; obtain ⟨bm, hBB, hU1, hU2⟩ := HX.out _ hZ; obtain ⟨p0, p1, p2, p3, p4, p5⟩ := blk_f6 bm))
    clear p0 p1 p2 p3 p4 p5
    go_loopw [4, 5] (fun v i wr => ∃ (k : Nat) (X : ByteArray), k ≤ F.length ∧ i = .int .i64 k ∧ v = .string X ∧ Hid (us X = HDu ++ psT (F.take k)) ∧ Below w0.heap.size w0 wr) (fun _ i _ => F.length - (intOf i).toNat)
    case atStart => exact ⟨0, _, Nat.zero_le _, rfl, rfl, Lib.hid (by rw [HHD.out]; simp [us, psT]), hZ⟩
    case round =>
      obtain ⟨k, X, hk, rfl, rfl, HL, hZ⟩ := hrel
      obtain ⟨bm, hBw, hU1, hU2⟩ := HX.out _ hZ
      obtain ⟨p0, p1, p2, p3, p4, p5⟩ := blk_f6 bm
      have hX : X.size ≤ 400 + 401 * 16 := by
        have h := HL.out
        have := HPT.out k
        rw [← length_us, h, List.length_append]
        rw [List.length_take] at this
        omega
      by_cases hlt : k < F.length
      · obtain ⟨b, off, rfl, hbl, hc1⟩ := C1.out (by omega)
        have hpp := hFl.out _ (List.getElem_mem hlt)
        have x0 : wr.cell? ⟨b, off + k * 3, none⟩ = some (sv F[k].name) := by rw [hBw.cell (p := ⟨b, off + k * 3, none⟩) hbl]; exact (hc1 k hlt).1
        have x1 : wr.cell? ⟨b, off + k * 3 + 1, none⟩ = some (sv F[k].value) := by rw [hBw.cell (p := ⟨b, off + k * 3 + 1, none⟩) hbl]; exact (hc1 k hlt).2.1
        have x2 : wr.cell? ⟨b, off + k * 3 + 2, none⟩ = some (.bool F[k].has) := by rw [hBw.cell (p := ⟨b, off + k * 3 + 2, none⟩) hbl]; exact (hc1 k hlt).2.2
        have HPP := Lib.hid (fun wx => pairR_c F[k] ⟨#[91, 93, 47, 58, 38, 43, 36]⟩ (by omega) (by omega) (by decide) wx)
        rw [show us ⟨#[91, 93, 47, 58, 38, 43, 36]⟩ = kParams from rfl] at HPP
        have hpl2 := pair_le F[k] kParams hpp.1 hpp.2.1
        have HN := Lib.hid (psT_take F k hlt)
        unfold pv sv at HPP
        unfold sv at x0 x1
        obtain ⟨PA, hPA⟩ : ∃ x, x = bs (pairS F[k] kParams) := ⟨_, rfl⟩
        have hPAs : PA.size ≤ 400 := by rw [hPA, size_bs]; exact hpl2
        have HPA := Lib.hid (show us PA = pairS F[k] kParams by rw [hPA, us_bs])
        rw [← hPA] at HPP
        obtain ⟨N, hN⟩ : ∃ N, N = bs F[k].name := ⟨_, rfl⟩
        obtain ⟨V, hV⟩ : ∃ V, V = bs F[k].value := ⟨_, rfl⟩
        rw [← hN] at x0 HPP
        rw [← hV] at x1 HPP
        obtain ⟨h, hh⟩ : ∃ h, h = F[k].has := ⟨_, rfl⟩
        rw [← hh] at x2 HPP
        have k0 : (0 : Int) ≤ (k : Int) := by omega
        have k1 : (k : Int) < (F.length : Int) := by omega
        clear hc1 hbl hpp hpl2 hPA hN hV hh
        go_wp2_with (go_at_call 41; (with_reducible refine (HPP.out _).mono ?_); rintro e w4 ⟨rfl, hC4⟩; have hZ := hZ.trans (hC4.mono hZ.size))
        go_roundw
        case rel => exact ⟨k + 1, _, by omega, by go_num, rfl, Lib.hid (by rw [HN.out, us_append, us_append, HL.out, HPA.out]; simp [us]), hZ⟩
        case measure => simp [intOf]; omega
      · have hkF : k = F.length := by omega
        subst hkF
        rw [List.take_of_length_le (Nat.le_refl _)] at HL
        obtain ⟨X1, hX1⟩ : ∃ x, x = X := ⟨_, rfl⟩
        rw [← hX1] at HL hX
        go_wp2
        rw [← hX1]
        clear hX1 p0 p1 p2 p3 p4 p5
        go_loopw [4, 6] (fun v i wr => ∃ (k : Nat) (X : ByteArray), k ≤ G.length ∧ i = .int .i64 k ∧ v = .string X ∧ Hid (us X = us X1 ++ hsT (G.take k)) ∧ Below w0.heap.size w0 wr) (fun _ i _ => G.length - (intOf i).toNat)
        case atStart => exact ⟨0, _, Nat.zero_le _, rfl, rfl, Lib.hid (by simp [hsT]), hZ⟩
        case round =>
          clear hlt
          obtain ⟨k, X, hk, rfl, rfl, HL2, hZ⟩ := hrel
          obtain ⟨bm, hBw, hU1, hU2⟩ := HX.out _ hZ
          obtain ⟨p0, p1, p2, p3, p4, p5⟩ := blk_f6 bm
          have hX2 : X.size ≤ 400 + 401 * 16 + 401 * 16 := by
            have h := HL2.out
            have := HGT.out k
            rw [← length_us, h, List.length_append, length_us]
            rw [List.length_take] at this
            omega
          by_cases hlt : k < G.length
          · obtain ⟨b, off, rfl, hbl, hc1⟩ := C2.out (by omega)
            have hpp := hGl.out _ (List.getElem_mem hlt)
            have x0 : wr.cell? ⟨b, off + k * 3, none⟩ = some (sv G[k].name) := by rw [hBw.cell (p := ⟨b, off + k * 3, none⟩) hbl]; exact (hc1 k hlt).1
            have x1 : wr.cell? ⟨b, off + k * 3 + 1, none⟩ = some (sv G[k].value) := by rw [hBw.cell (p := ⟨b, off + k * 3 + 1, none⟩) hbl]; exact (hc1 k hlt).2.1
            have x2 : wr.cell? ⟨b, off + k * 3 + 2, none⟩ = some (.bool G[k].has) := by rw [hBw.cell (p := ⟨b, off + k * 3 + 2, none⟩) hbl]; exact (hc1 k hlt).2.2
            have HPP := Lib.hid (fun wx => pairR_c G[k] ⟨#[91, 93, 47, 63, 58, 43, 36]⟩ (by omega) (by omega) (by decide) wx)
            rw [show us ⟨#[91, 93, 47, 63, 58, 43, 36]⟩ = kHeaders from rfl] at HPP
            have hpl2 := pair_le G[k] kHeaders hpp.1 hpp.2.1
            have HN := Lib.hid (hsT_take G k hlt)
            unfold pv sv at HPP
            unfold sv at x0 x1
            obtain ⟨PA, hPA⟩ : ∃ x, x = bs (pairS G[k] kHeaders) := ⟨_, rfl⟩
            have hPAs : PA.size ≤ 400 := by rw [hPA, size_bs]; exact hpl2
            have HPA := Lib.hid (show us PA = pairS G[k] kHeaders by rw [hPA, us_bs])
            rw [← hPA] at HPP
            obtain ⟨N, hN⟩ : ∃ N, N = bs G[k].name := ⟨_, rfl⟩
            obtain ⟨V, hV⟩ : ∃ V, V = bs G[k].value := ⟨_, rfl⟩
            rw [← hN] at x0 HPP
            rw [← hV] at x1 HPP
            obtain ⟨h, hh⟩ : ∃ h, h = G[k].has := ⟨_, rfl⟩
            rw [← hh] at x2 HPP
            have k0 : (0 : Int) ≤ (k : Int) := by omega
            have k1 : (k : Int) < (G.length : Int) := by omega
            clear hc1 hbl hpp hpl2 hPA hN hV hh
            by_cases hz : k = 0
            · subst hz
              simp only [Nat.zero_mul, Nat.add_zero] at x0 x1 x2
              go_wp2_with (go_at_call 41; (with_reducible refine (HPP.out _).mono ?_); rintro e w4 ⟨rfl, hC4⟩; have hZ := hZ.trans (hC4.mono hZ.size))
              go_roundw
              case rel => exact ⟨0 + 1, _, by omega, by go_num, rfl, Lib.hid (by rw [HN.out, us_append, us_append, HL2.out, HPA.out]; simp [us, hsep]), hZ⟩
              case measure => simp [intOf]; omega
            · have kz : ((k : Int) == 0) = false := by simp; omega
              go_wp2_with (go_at_call 41; (with_reducible refine (HPP.out _).mono ?_); rintro e w4 ⟨rfl, hC4⟩; have hZ := hZ.trans (hC4.mono hZ.size))
              go_roundw
              case rel => exact ⟨k + 1, _, by omega, by go_num, rfl, Lib.hid (by rw [HN.out, us_append, us_append, HL2.out, HPA.out]; simp [us, hsep, hz]), hZ⟩
              case measure => simp [intOf]; omega
          · have hkG : k = G.length := by omega
            subst hkG
            rw [List.take_of_length_le (Nat.le_refl _)] at HL2
            go_wp2
            go_ret2
            exact ⟨ret_si (p := PU) (by rw [HPR.out, HTH.out, HL2.out, HL.out]), hBw⟩
  · rw [if_pos (hunil.2 hu)] at hhd
    obtain rfl := eq_empty hu
    clear hu hunil
    rw [if_neg hp] at hhd
    clear hpl
    obtain rfl : n = 0 := by omega
    have hHDl : HDu.length ≤ 400 := by rw [hhd]; simp only [List.length_append, List.length_cons, List.length_nil, length_us]; omega
    have HHD := Lib.hid hhd
    clear hhd
    go_enter Tryz.func15, Tryz.ntmps15
    go_wp2_with (first | (go_at_call 19; (try rw [← HW0.out]); refine (HCK.out _ hU1 hU2).mono ?_; rintro e w1 ⟨rfl, hC1⟩; have hZ := hZ.trans (hC1.mono hZ.size); obtain ⟨bm, hBB, hU1, hU2⟩ := HX.out _ hZ; obtain ⟨p0, p1, p2, p3, p4, p5⟩ := blk_f6 bm) | (go_at_call 39; (with_reducible refine (HEU.out _).mono ?_); rintro e w2 ⟨rfl, hCe⟩; have hZ := hZ.trans (hCe.mono hZ.size); obtain ⟨bm, hBB, hU1, hU2⟩ := HX.out _ hZ; obtain ⟨p0, p1, p2, p3, p4, p5⟩ := blk_f6 bm) | (go_at_call 40; (with_reducible refine (HDG.out _).mono ?_); rintro e w3 ⟨rfl, hCe⟩; have hZ := hZ.trans hCe.below; obtain ⟨bm, hBB, hU1, hU2⟩ := HX.out _ hZ; obtain ⟨p0, p1, p2, p3, p4, p5⟩ := blk_f6 bm))
    clear p0 p1 p2 p3 p4 p5
    go_loopw [4, 5] (fun v i wr => ∃ (k : Nat) (X : ByteArray), k ≤ F.length ∧ i = .int .i64 k ∧ v = .string X ∧ Hid (us X = HDu ++ psT (F.take k)) ∧ Below w0.heap.size w0 wr) (fun _ i _ => F.length - (intOf i).toNat)
    case atStart => exact ⟨0, _, Nat.zero_le _, rfl, rfl, Lib.hid (by rw [HHD.out]; simp [us, psT]), hZ⟩
    case round =>
      obtain ⟨k, X, hk, rfl, rfl, HL, hZ⟩ := hrel
      obtain ⟨bm, hBw, hU1, hU2⟩ := HX.out _ hZ
      obtain ⟨p0, p1, p2, p3, p4, p5⟩ := blk_f6 bm
      have hX : X.size ≤ 400 + 401 * 16 := by
        have h := HL.out
        have := HPT.out k
        rw [← length_us, h, List.length_append]
        rw [List.length_take] at this
        omega
      by_cases hlt : k < F.length
      · obtain ⟨b, off, rfl, hbl, hc1⟩ := C1.out (by omega)
        have hpp := hFl.out _ (List.getElem_mem hlt)
        have x0 : wr.cell? ⟨b, off + k * 3, none⟩ = some (sv F[k].name) := by rw [hBw.cell (p := ⟨b, off + k * 3, none⟩) hbl]; exact (hc1 k hlt).1
        have x1 : wr.cell? ⟨b, off + k * 3 + 1, none⟩ = some (sv F[k].value) := by rw [hBw.cell (p := ⟨b, off + k * 3 + 1, none⟩) hbl]; exact (hc1 k hlt).2.1
        have x2 : wr.cell? ⟨b, off + k * 3 + 2, none⟩ = some (.bool F[k].has) := by rw [hBw.cell (p := ⟨b, off + k * 3 + 2, none⟩) hbl]; exact (hc1 k hlt).2.2
        have HPP := Lib.hid (fun wx => pairR_c F[k] ⟨#[91, 93, 47, 58, 38, 43, 36]⟩ (by omega) (by omega) (by decide) wx)
        rw [show us ⟨#[91, 93, 47, 58, 38, 43, 36]⟩ = kParams from rfl] at HPP
        have hpl2 := pair_le F[k] kParams hpp.1 hpp.2.1
        have HN := Lib.hid (psT_take F k hlt)
        unfold pv sv at HPP
        unfold sv at x0 x1
        obtain ⟨PA, hPA⟩ : ∃ x, x = bs (pairS F[k] kParams) := ⟨_, rfl⟩
        have hPAs : PA.size ≤ 400 := by rw [hPA, size_bs]; exact hpl2
        have HPA := Lib.hid (show us PA = pairS F[k] kParams by rw [hPA, us_bs])
        rw [← hPA] at HPP
        obtain ⟨N, hN⟩ : ∃ N, N = bs F[k].name := ⟨_, rfl⟩
        obtain ⟨V, hV⟩ : ∃ V, V = bs F[k].value := ⟨_, rfl⟩
        rw [← hN] at x0 HPP
        rw [← hV] at x1 HPP
        obtain ⟨h, hh⟩ : ∃ h, h = F[k].has := ⟨_, rfl⟩
        rw [← hh] at x2 HPP
        have k0 : (0 : Int) ≤ (k : Int) := by omega
        have k1 : (k : Int) < (F.length : Int) := by omega
        clear hc1 hbl hpp hpl2 hPA hN hV hh
        go_wp2_with (go_at_call 41; (with_reducible refine (HPP.out _).mono ?_); rintro e w4 ⟨rfl, hC4⟩; have hZ := hZ.trans (hC4.mono hZ.size))
        go_roundw
        case rel => exact ⟨k + 1, _, by omega, by go_num, rfl, Lib.hid (by rw [HN.out, us_append, us_append, HL.out, HPA.out]; simp [us]), hZ⟩
        case measure => simp [intOf]; omega
      · have hkF : k = F.length := by omega
        subst hkF
        rw [List.take_of_length_le (Nat.le_refl _)] at HL
        obtain ⟨X1, hX1⟩ : ∃ x, x = X := ⟨_, rfl⟩
        rw [← hX1] at HL hX
        go_wp2
        rw [← hX1]
        clear hX1 p0 p1 p2 p3 p4 p5
        go_loopw [4, 6] (fun v i wr => ∃ (k : Nat) (X : ByteArray), k ≤ G.length ∧ i = .int .i64 k ∧ v = .string X ∧ Hid (us X = us X1 ++ hsT (G.take k)) ∧ Below w0.heap.size w0 wr) (fun _ i _ => G.length - (intOf i).toNat)
        case atStart => exact ⟨0, _, Nat.zero_le _, rfl, rfl, Lib.hid (by simp [hsT]), hZ⟩
        case round =>
          clear hlt
          obtain ⟨k, X, hk, rfl, rfl, HL2, hZ⟩ := hrel
          obtain ⟨bm, hBw, hU1, hU2⟩ := HX.out _ hZ
          obtain ⟨p0, p1, p2, p3, p4, p5⟩ := blk_f6 bm
          have hX2 : X.size ≤ 400 + 401 * 16 + 401 * 16 := by
            have h := HL2.out
            have := HGT.out k
            rw [← length_us, h, List.length_append, length_us]
            rw [List.length_take] at this
            omega
          by_cases hlt : k < G.length
          · obtain ⟨b, off, rfl, hbl, hc1⟩ := C2.out (by omega)
            have hpp := hGl.out _ (List.getElem_mem hlt)
            have x0 : wr.cell? ⟨b, off + k * 3, none⟩ = some (sv G[k].name) := by rw [hBw.cell (p := ⟨b, off + k * 3, none⟩) hbl]; exact (hc1 k hlt).1
            have x1 : wr.cell? ⟨b, off + k * 3 + 1, none⟩ = some (sv G[k].value) := by rw [hBw.cell (p := ⟨b, off + k * 3 + 1, none⟩) hbl]; exact (hc1 k hlt).2.1
            have x2 : wr.cell? ⟨b, off + k * 3 + 2, none⟩ = some (.bool G[k].has) := by rw [hBw.cell (p := ⟨b, off + k * 3 + 2, none⟩) hbl]; exact (hc1 k hlt).2.2
            have HPP := Lib.hid (fun wx => pairR_c G[k] ⟨#[91, 93, 47, 63, 58, 43, 36]⟩ (by omega) (by omega) (by decide) wx)
            rw [show us ⟨#[91, 93, 47, 63, 58, 43, 36]⟩ = kHeaders from rfl] at HPP
            have hpl2 := pair_le G[k] kHeaders hpp.1 hpp.2.1
            have HN := Lib.hid (hsT_take G k hlt)
            unfold pv sv at HPP
            unfold sv at x0 x1
            obtain ⟨PA, hPA⟩ : ∃ x, x = bs (pairS G[k] kHeaders) := ⟨_, rfl⟩
            have hPAs : PA.size ≤ 400 := by rw [hPA, size_bs]; exact hpl2
            have HPA := Lib.hid (show us PA = pairS G[k] kHeaders by rw [hPA, us_bs])
            rw [← hPA] at HPP
            obtain ⟨N, hN⟩ : ∃ N, N = bs G[k].name := ⟨_, rfl⟩
            obtain ⟨V, hV⟩ : ∃ V, V = bs G[k].value := ⟨_, rfl⟩
            rw [← hN] at x0 HPP
            rw [← hV] at x1 HPP
            obtain ⟨h, hh⟩ : ∃ h, h = G[k].has := ⟨_, rfl⟩
            rw [← hh] at x2 HPP
            have k0 : (0 : Int) ≤ (k : Int) := by omega
            have k1 : (k : Int) < (G.length : Int) := by omega
            clear hc1 hbl hpp hpl2 hPA hN hV hh
            by_cases hz : k = 0
            · subst hz
              simp only [Nat.zero_mul, Nat.add_zero] at x0 x1 x2
              go_wp2_with (go_at_call 41; (with_reducible refine (HPP.out _).mono ?_); rintro e w4 ⟨rfl, hC4⟩; have hZ := hZ.trans (hC4.mono hZ.size))
              go_roundw
              case rel => exact ⟨0 + 1, _, by omega, by go_num, rfl, Lib.hid (by rw [HN.out, us_append, us_append, HL2.out, HPA.out]; simp [us, hsep]), hZ⟩
              case measure => simp [intOf]; omega
            · have kz : ((k : Int) == 0) = false := by simp; omega
              go_wp2_with (go_at_call 41; (with_reducible refine (HPP.out _).mono ?_); rintro e w4 ⟨rfl, hC4⟩; have hZ := hZ.trans (hC4.mono hZ.size))
              go_roundw
              case rel => exact ⟨k + 1, _, by omega, by go_num, rfl, Lib.hid (by rw [HN.out, us_append, us_append, HL2.out, HPA.out]; simp [us, hsep, hz]), hZ⟩
              case measure => simp [intOf]; omega
          · have hkG : k = G.length := by omega
            subst hkG
            rw [List.take_of_length_le (Nat.le_refl _)] at HL2
            go_wp2
            go_ret2
            exact ⟨ret_si (p := PU) (by rw [HPR.out, HTH.out, HL2.out, HL.out]), hBw⟩
  · rw [if_neg (fun h => hu (hunil.1 h))] at hhd
    have pE := ne_empty hu
    have pF := isEmpty_f hu
    clear hu hunil
    rw [if_pos hp] at hhd hpl
    rw [List.length_cons, length_us] at hpl
    have np : (n != 0) = true := by simp; omega
    have hHDl : HDu.length ≤ 400 := by rw [hhd]; simp only [List.length_append, List.length_cons, List.length_nil, length_us]; omega
    have HHD := Lib.hid hhd
    clear hhd
    go_enter Tryz.func15, Tryz.ntmps15
    go_wp2_with (first | (go_at_call 19; (try rw [← HW0.out]); refine (HCK.out _ hU1 hU2).mono ?_; rintro e w1 ⟨rfl, hC1⟩; have hZ := hZ.trans (hC1.mono hZ.size); obtain ⟨bm, hBB, hU1, hU2⟩ := HX.out _ hZ; obtain ⟨p0, p1, p2, p3, p4, p5⟩ := blk_f6 bm) | (go_at_call 39; (with_reducible refine (HEU.out _).mono ?_); rintro e w2 ⟨rfl, hCe⟩; have hZ := hZ.trans (hCe.mono hZ.size); obtain ⟨bm, hBB, hU1, hU2⟩ := HX.out _ hZ; obtain ⟨p0, p1, p2, p3, p4, p5⟩ := blk_f6 bm) | (go_at_call 40; (with_reducible refine (HDG.out _).mono ?_); rintro e w3 ⟨rfl, hCe⟩; have hZ := hZ.trans hCe.below; obtain ⟨bm, hBB, hU1, hU2⟩ := HX.out _ hZ; obtain ⟨p0, p1, p2, p3, p4, p5⟩ := blk_f6 bm))
    clear p0 p1 p2 p3 p4 p5
    go_loopw [4, 5] (fun v i wr => ∃ (k : Nat) (X : ByteArray), k ≤ F.length ∧ i = .int .i64 k ∧ v = .string X ∧ Hid (us X = HDu ++ psT (F.take k)) ∧ Below w0.heap.size w0 wr) (fun _ i _ => F.length - (intOf i).toNat)
    case atStart => exact ⟨0, _, Nat.zero_le _, rfl, rfl, Lib.hid (by rw [HHD.out]; simp [us, psT]), hZ⟩
    case round =>
      obtain ⟨k, X, hk, rfl, rfl, HL, hZ⟩ := hrel
      obtain ⟨bm, hBw, hU1, hU2⟩ := HX.out _ hZ
      obtain ⟨p0, p1, p2, p3, p4, p5⟩ := blk_f6 bm
      have hX : X.size ≤ 400 + 401 * 16 := by
        have h := HL.out
        have := HPT.out k
        rw [← length_us, h, List.length_append]
        rw [List.length_take] at this
        omega
      by_cases hlt : k < F.length
      · obtain ⟨b, off, rfl, hbl, hc1⟩ := C1.out (by omega)
        have hpp := hFl.out _ (List.getElem_mem hlt)
        have x0 : wr.cell? ⟨b, off + k * 3, none⟩ = some (sv F[k].name) := by rw [hBw.cell (p := ⟨b, off + k * 3, none⟩) hbl]; exact (hc1 k hlt).1
        have x1 : wr.cell? ⟨b, off + k * 3 + 1, none⟩ = some (sv F[k].value) := by rw [hBw.cell (p := ⟨b, off + k * 3 + 1, none⟩) hbl]; exact (hc1 k hlt).2.1
        have x2 : wr.cell? ⟨b, off + k * 3 + 2, none⟩ = some (.bool F[k].has) := by rw [hBw.cell (p := ⟨b, off + k * 3 + 2, none⟩) hbl]; exact (hc1 k hlt).2.2
        have HPP := Lib.hid (fun wx => pairR_c F[k] ⟨#[91, 93, 47, 58, 38, 43, 36]⟩ (by omega) (by omega) (by decide) wx)
        rw [show us ⟨#[91, 93, 47, 58, 38, 43, 36]⟩ = kParams from rfl] at HPP
        have hpl2 := pair_le F[k] kParams hpp.1 hpp.2.1
        have HN := Lib.hid (psT_take F k hlt)
        unfold pv sv at HPP
        unfold sv at x0 x1
        obtain ⟨PA, hPA⟩ : ∃ x, x = bs (pairS F[k] kParams) := ⟨_, rfl⟩
        have hPAs : PA.size ≤ 400 := by rw [hPA, size_bs]; exact hpl2
        have HPA := Lib.hid (show us PA = pairS F[k] kParams by rw [hPA, us_bs])
        rw [← hPA] at HPP
        obtain ⟨N, hN⟩ : ∃ N, N = bs F[k].name := ⟨_, rfl⟩
        obtain ⟨V, hV⟩ : ∃ V, V = bs F[k].value := ⟨_, rfl⟩
        rw [← hN] at x0 HPP
        rw [← hV] at x1 HPP
        obtain ⟨h, hh⟩ : ∃ h, h = F[k].has := ⟨_, rfl⟩
        rw [← hh] at x2 HPP
        have k0 : (0 : Int) ≤ (k : Int) := by omega
        have k1 : (k : Int) < (F.length : Int) := by omega
        clear hc1 hbl hpp hpl2 hPA hN hV hh
        go_wp2_with (go_at_call 41; (with_reducible refine (HPP.out _).mono ?_); rintro e w4 ⟨rfl, hC4⟩; have hZ := hZ.trans (hC4.mono hZ.size))
        go_roundw
        case rel => exact ⟨k + 1, _, by omega, by go_num, rfl, Lib.hid (by rw [HN.out, us_append, us_append, HL.out, HPA.out]; simp [us]), hZ⟩
        case measure => simp [intOf]; omega
      · have hkF : k = F.length := by omega
        subst hkF
        rw [List.take_of_length_le (Nat.le_refl _)] at HL
        obtain ⟨X1, hX1⟩ : ∃ x, x = X := ⟨_, rfl⟩
        rw [← hX1] at HL hX
        go_wp2
        rw [← hX1]
        clear hX1 p0 p1 p2 p3 p4 p5
        go_loopw [4, 6] (fun v i wr => ∃ (k : Nat) (X : ByteArray), k ≤ G.length ∧ i = .int .i64 k ∧ v = .string X ∧ Hid (us X = us X1 ++ hsT (G.take k)) ∧ Below w0.heap.size w0 wr) (fun _ i _ => G.length - (intOf i).toNat)
        case atStart => exact ⟨0, _, Nat.zero_le _, rfl, rfl, Lib.hid (by simp [hsT]), hZ⟩
        case round =>
          clear hlt
          obtain ⟨k, X, hk, rfl, rfl, HL2, hZ⟩ := hrel
          obtain ⟨bm, hBw, hU1, hU2⟩ := HX.out _ hZ
          obtain ⟨p0, p1, p2, p3, p4, p5⟩ := blk_f6 bm
          have hX2 : X.size ≤ 400 + 401 * 16 + 401 * 16 := by
            have h := HL2.out
            have := HGT.out k
            rw [← length_us, h, List.length_append, length_us]
            rw [List.length_take] at this
            omega
          by_cases hlt : k < G.length
          · obtain ⟨b, off, rfl, hbl, hc1⟩ := C2.out (by omega)
            have hpp := hGl.out _ (List.getElem_mem hlt)
            have x0 : wr.cell? ⟨b, off + k * 3, none⟩ = some (sv G[k].name) := by rw [hBw.cell (p := ⟨b, off + k * 3, none⟩) hbl]; exact (hc1 k hlt).1
            have x1 : wr.cell? ⟨b, off + k * 3 + 1, none⟩ = some (sv G[k].value) := by rw [hBw.cell (p := ⟨b, off + k * 3 + 1, none⟩) hbl]; exact (hc1 k hlt).2.1
            have x2 : wr.cell? ⟨b, off + k * 3 + 2, none⟩ = some (.bool G[k].has) := by rw [hBw.cell (p := ⟨b, off + k * 3 + 2, none⟩) hbl]; exact (hc1 k hlt).2.2
            have HPP := Lib.hid (fun wx => pairR_c G[k] ⟨#[91, 93, 47, 63, 58, 43, 36]⟩ (by omega) (by omega) (by decide) wx)
            rw [show us ⟨#[91, 93, 47, 63, 58, 43, 36]⟩ = kHeaders from rfl] at HPP
            have hpl2 := pair_le G[k] kHeaders hpp.1 hpp.2.1
            have HN := Lib.hid (hsT_take G k hlt)
            unfold pv sv at HPP
            unfold sv at x0 x1
            obtain ⟨PA, hPA⟩ : ∃ x, x = bs (pairS G[k] kHeaders) := ⟨_, rfl⟩
            have hPAs : PA.size ≤ 400 := by rw [hPA, size_bs]; exact hpl2
            have HPA := Lib.hid (show us PA = pairS G[k] kHeaders by rw [hPA, us_bs])
            rw [← hPA] at HPP
            obtain ⟨N, hN⟩ : ∃ N, N = bs G[k].name := ⟨_, rfl⟩
            obtain ⟨V, hV⟩ : ∃ V, V = bs G[k].value := ⟨_, rfl⟩
            rw [← hN] at x0 HPP
            rw [← hV] at x1 HPP
            obtain ⟨h, hh⟩ : ∃ h, h = G[k].has := ⟨_, rfl⟩
            rw [← hh] at x2 HPP
            have k0 : (0 : Int) ≤ (k : Int) := by omega
            have k1 : (k : Int) < (G.length : Int) := by omega
            clear hc1 hbl hpp hpl2 hPA hN hV hh
            by_cases hz : k = 0
            · subst hz
              simp only [Nat.zero_mul, Nat.add_zero] at x0 x1 x2
              go_wp2_with (go_at_call 41; (with_reducible refine (HPP.out _).mono ?_); rintro e w4 ⟨rfl, hC4⟩; have hZ := hZ.trans (hC4.mono hZ.size))
              go_roundw
              case rel => exact ⟨0 + 1, _, by omega, by go_num, rfl, Lib.hid (by rw [HN.out, us_append, us_append, HL2.out, HPA.out]; simp [us, hsep]), hZ⟩
              case measure => simp [intOf]; omega
            · have kz : ((k : Int) == 0) = false := by simp; omega
              go_wp2_with (go_at_call 41; (with_reducible refine (HPP.out _).mono ?_); rintro e w4 ⟨rfl, hC4⟩; have hZ := hZ.trans (hC4.mono hZ.size))
              go_roundw
              case rel => exact ⟨k + 1, _, by omega, by go_num, rfl, Lib.hid (by rw [HN.out, us_append, us_append, HL2.out, HPA.out]; simp [us, hsep, hz]), hZ⟩
              case measure => simp [intOf]; omega
          · have hkG : k = G.length := by omega
            subst hkG
            rw [List.take_of_length_le (Nat.le_refl _)] at HL2
            go_wp2
            go_ret2
            exact ⟨ret_si (p := PU) (by rw [HPR.out, HTH.out, HL2.out, HL.out]), hBw⟩
  · rw [if_neg (fun h => hu (hunil.1 h))] at hhd
    have pE := ne_empty hu
    have pF := isEmpty_f hu
    clear hu hunil
    rw [if_neg hp] at hhd
    clear hpl
    obtain rfl : n = 0 := by omega
    have hHDl : HDu.length ≤ 400 := by rw [hhd]; simp only [List.length_append, List.length_cons, List.length_nil, length_us]; omega
    have HHD := Lib.hid hhd
    clear hhd
    go_enter Tryz.func15, Tryz.ntmps15
    go_wp2_with (first | (go_at_call 19; (try rw [← HW0.out]); refine (HCK.out _ hU1 hU2).mono ?_; rintro e w1 ⟨rfl, hC1⟩; have hZ := hZ.trans (hC1.mono hZ.size); obtain ⟨bm, hBB, hU1, hU2⟩ := HX.out _ hZ; obtain ⟨p0, p1, p2, p3, p4, p5⟩ := blk_f6 bm) | (go_at_call 39; (with_reducible refine (HEU.out _).mono ?_); rintro e w2 ⟨rfl, hCe⟩; have hZ := hZ.trans (hCe.mono hZ.size); obtain ⟨bm, hBB, hU1, hU2⟩ := HX.out _ hZ; obtain ⟨p0, p1, p2, p3, p4, p5⟩ := blk_f6 bm) | (go_at_call 40; (with_reducible refine (HDG.out _).mono ?_); rintro e w3 ⟨rfl, hCe⟩; have hZ := hZ.trans hCe.below; obtain ⟨bm, hBB, hU1, hU2⟩ := HX.out _ hZ; obtain ⟨p0, p1, p2, p3, p4, p5⟩ := blk_f6 bm))
    clear p0 p1 p2 p3 p4 p5
    go_loopw [4, 5] (fun v i wr => ∃ (k : Nat) (X : ByteArray), k ≤ F.length ∧ i = .int .i64 k ∧ v = .string X ∧ Hid (us X = HDu ++ psT (F.take k)) ∧ Below w0.heap.size w0 wr) (fun _ i _ => F.length - (intOf i).toNat)
    case atStart => exact ⟨0, _, Nat.zero_le _, rfl, rfl, Lib.hid (by rw [HHD.out]; simp [us, psT]), hZ⟩
    case round =>
      obtain ⟨k, X, hk, rfl, rfl, HL, hZ⟩ := hrel
      obtain ⟨bm, hBw, hU1, hU2⟩ := HX.out _ hZ
      obtain ⟨p0, p1, p2, p3, p4, p5⟩ := blk_f6 bm
      have hX : X.size ≤ 400 + 401 * 16 := by
        have h := HL.out
        have := HPT.out k
        rw [← length_us, h, List.length_append]
        rw [List.length_take] at this
        omega
      by_cases hlt : k < F.length
      · obtain ⟨b, off, rfl, hbl, hc1⟩ := C1.out (by omega)
        have hpp := hFl.out _ (List.getElem_mem hlt)
        have x0 : wr.cell? ⟨b, off + k * 3, none⟩ = some (sv F[k].name) := by rw [hBw.cell (p := ⟨b, off + k * 3, none⟩) hbl]; exact (hc1 k hlt).1
        have x1 : wr.cell? ⟨b, off + k * 3 + 1, none⟩ = some (sv F[k].value) := by rw [hBw.cell (p := ⟨b, off + k * 3 + 1, none⟩) hbl]; exact (hc1 k hlt).2.1
        have x2 : wr.cell? ⟨b, off + k * 3 + 2, none⟩ = some (.bool F[k].has) := by rw [hBw.cell (p := ⟨b, off + k * 3 + 2, none⟩) hbl]; exact (hc1 k hlt).2.2
        have HPP := Lib.hid (fun wx => pairR_c F[k] ⟨#[91, 93, 47, 58, 38, 43, 36]⟩ (by omega) (by omega) (by decide) wx)
        rw [show us ⟨#[91, 93, 47, 58, 38, 43, 36]⟩ = kParams from rfl] at HPP
        have hpl2 := pair_le F[k] kParams hpp.1 hpp.2.1
        have HN := Lib.hid (psT_take F k hlt)
        unfold pv sv at HPP
        unfold sv at x0 x1
        obtain ⟨PA, hPA⟩ : ∃ x, x = bs (pairS F[k] kParams) := ⟨_, rfl⟩
        have hPAs : PA.size ≤ 400 := by rw [hPA, size_bs]; exact hpl2
        have HPA := Lib.hid (show us PA = pairS F[k] kParams by rw [hPA, us_bs])
        rw [← hPA] at HPP
        obtain ⟨N, hN⟩ : ∃ N, N = bs F[k].name := ⟨_, rfl⟩
        obtain ⟨V, hV⟩ : ∃ V, V = bs F[k].value := ⟨_, rfl⟩
        rw [← hN] at x0 HPP
        rw [← hV] at x1 HPP
        obtain ⟨h, hh⟩ : ∃ h, h = F[k].has := ⟨_, rfl⟩
        rw [← hh] at x2 HPP
        have k0 : (0 : Int) ≤ (k : Int) := by omega
        have k1 : (k : Int) < (F.length : Int) := by omega
        clear hc1 hbl hpp hpl2 hPA hN hV hh
        go_wp2_with (go_at_call 41; (with_reducible refine (HPP.out _).mono ?_); rintro e w4 ⟨rfl, hC4⟩; have hZ := hZ.trans (hC4.mono hZ.size))
        go_roundw
        case rel => exact ⟨k + 1, _, by omega, by go_num, rfl, Lib.hid (by rw [HN.out, us_append, us_append, HL.out, HPA.out]; simp [us]), hZ⟩
        case measure => simp [intOf]; omega
      · have hkF : k = F.length := by omega
        subst hkF
        rw [List.take_of_length_le (Nat.le_refl _)] at HL
        obtain ⟨X1, hX1⟩ : ∃ x, x = X := ⟨_, rfl⟩
        rw [← hX1] at HL hX
        go_wp2
        rw [← hX1]
        clear hX1 p0 p1 p2 p3 p4 p5
        go_loopw [4, 6] (fun v i wr => ∃ (k : Nat) (X : ByteArray), k ≤ G.length ∧ i = .int .i64 k ∧ v = .string X ∧ Hid (us X = us X1 ++ hsT (G.take k)) ∧ Below w0.heap.size w0 wr) (fun _ i _ => G.length - (intOf i).toNat)
        case atStart => exact ⟨0, _, Nat.zero_le _, rfl, rfl, Lib.hid (by simp [hsT]), hZ⟩
        case round =>
          clear hlt
          obtain ⟨k, X, hk, rfl, rfl, HL2, hZ⟩ := hrel
          obtain ⟨bm, hBw, hU1, hU2⟩ := HX.out _ hZ
          obtain ⟨p0, p1, p2, p3, p4, p5⟩ := blk_f6 bm
          have hX2 : X.size ≤ 400 + 401 * 16 + 401 * 16 := by
            have h := HL2.out
            have := HGT.out k
            rw [← length_us, h, List.length_append, length_us]
            rw [List.length_take] at this
            omega
          by_cases hlt : k < G.length
          · obtain ⟨b, off, rfl, hbl, hc1⟩ := C2.out (by omega)
            have hpp := hGl.out _ (List.getElem_mem hlt)
            have x0 : wr.cell? ⟨b, off + k * 3, none⟩ = some (sv G[k].name) := by rw [hBw.cell (p := ⟨b, off + k * 3, none⟩) hbl]; exact (hc1 k hlt).1
            have x1 : wr.cell? ⟨b, off + k * 3 + 1, none⟩ = some (sv G[k].value) := by rw [hBw.cell (p := ⟨b, off + k * 3 + 1, none⟩) hbl]; exact (hc1 k hlt).2.1
            have x2 : wr.cell? ⟨b, off + k * 3 + 2, none⟩ = some (.bool G[k].has) := by rw [hBw.cell (p := ⟨b, off + k * 3 + 2, none⟩) hbl]; exact (hc1 k hlt).2.2
            have HPP := Lib.hid (fun wx => pairR_c G[k] ⟨#[91, 93, 47, 63, 58, 43, 36]⟩ (by omega) (by omega) (by decide) wx)
            rw [show us ⟨#[91, 93, 47, 63, 58, 43, 36]⟩ = kHeaders from rfl] at HPP
            have hpl2 := pair_le G[k] kHeaders hpp.1 hpp.2.1
            have HN := Lib.hid (hsT_take G k hlt)
            unfold pv sv at HPP
            unfold sv at x0 x1
            obtain ⟨PA, hPA⟩ : ∃ x, x = bs (pairS G[k] kHeaders) := ⟨_, rfl⟩
            have hPAs : PA.size ≤ 400 := by rw [hPA, size_bs]; exact hpl2
            have HPA := Lib.hid (show us PA = pairS G[k] kHeaders by rw [hPA, us_bs])
            rw [← hPA] at HPP
            obtain ⟨N, hN⟩ : ∃ N, N = bs G[k].name := ⟨_, rfl⟩
            obtain ⟨V, hV⟩ : ∃ V, V = bs G[k].value := ⟨_, rfl⟩
            rw [← hN] at x0 HPP
            rw [← hV] at x1 HPP
            obtain ⟨h, hh⟩ : ∃ h, h = G[k].has := ⟨_, rfl⟩
            rw [← hh] at x2 HPP
            have k0 : (0 : Int) ≤ (k : Int) := by omega
            have k1 : (k : Int) < (G.length : Int) := by omega
            clear hc1 hbl hpp hpl2 hPA hN hV hh
            by_cases hz : k = 0
            · subst hz
              simp only [Nat.zero_mul, Nat.add_zero] at x0 x1 x2
              go_wp2_with (go_at_call 41; (with_reducible refine (HPP.out _).mono ?_); rintro e w4 ⟨rfl, hC4⟩; have hZ := hZ.trans (hC4.mono hZ.size))
              go_roundw
              case rel => exact ⟨0 + 1, _, by omega, by go_num, rfl, Lib.hid (by rw [HN.out, us_append, us_append, HL2.out, HPA.out]; simp [us, hsep]), hZ⟩
              case measure => simp [intOf]; omega
            · have kz : ((k : Int) == 0) = false := by simp; omega
              go_wp2_with (go_at_call 41; (with_reducible refine (HPP.out _).mono ?_); rintro e w4 ⟨rfl, hC4⟩; have hZ := hZ.trans (hC4.mono hZ.size))
              go_roundw
              case rel => exact ⟨k + 1, _, by omega, by go_num, rfl, Lib.hid (by rw [HN.out, us_append, us_append, HL2.out, HPA.out]; simp [us, hsep, hz]), hZ⟩
              case measure => simp [intOf]; omega
          · have hkG : k = G.length := by omega
            subst hkG
            rw [List.take_of_length_le (Nat.le_refl _)] at HL2
            go_wp2
            go_ret2
            exact ⟨ret_si (p := PU) (by rw [HPR.out, HTH.out, HL2.out, HL.out]), hBw⟩

end Go.Proofs.YtjpmfcipjaeemaaGreatDoor
