/- Contracts of Go functions, and plain laws. No condition but those told. -/
import Derived.Test.YtipdiddjhimdcaaGreatDoorRZ03
set_option linter.unusedSimpArgs false
set_option linter.unusedVariables false
set_option maxRecDepth 100000
namespace Go.Proofs.YtipdiddjhimdcaaGreatDoor
open Go.RowKit Go.Sort
set_option maxHeartbeats 6400000 in
theorem checkUR_c (S U H : ByteArray) (n : Int) (u1 u2 : Value) (F G : List Prm) (hS : S.size ≤ 4294967280) (hH : H.size ≤ 4294967280) (w : World) (h1 : RPrms w u1 F) (h2 : RPrms w u2 G) (hb1 : ∀ p ∈ F, p.name.length ≤ 4294967280 ∧ p.value.length ≤ 4294967280) (hb2 : ∀ p ∈ G, p.name.length ≤ 4294967280 ∧ p.value.length ≤ 4294967280) :
  Calls Tryz.prog 119 #[.agg #[.string S, .string U, .string H, .int .i64 n, u1, u2]] w fun e w' => e = .returned (.int .i64 (checkU ⟨us S, us U, us H, n, F, G⟩)) ∧ Below w.heap.size w w' := by
 have HS := κ (fun wx => schemeR_c S wx)
 have HH := κ (fun wx => hostR_c H hH wx)
 have HU1 := κ h1
 have HU2 := κ h2
 obtain ⟨ao, ac, rfl, hm1, c1⟩ := h1.form
 obtain ⟨bo, bc, rfl, hm2, c2⟩ := h2.form
 have C2 := κ c2
 have HL1 := κ (fun wx hx => listR_c' (.slice ao F.length ac) F wx hx hb1)
 have HL2 := κ (fun wx hx => listR_c' (.slice bo G.length bc) G wx hx hb2)
 unfold maxLen at hm2
 have hcs := checkU_cases S U H n F G
 obtain ⟨C, hC⟩ : ∃ C, C = checkU ⟨us S, us U, us H, n, F, G⟩ := ⟨_, rfl⟩
 rw [← hC] at hcs ⊢
 clear hC c1 c2 h1 h2 hm1 hb1 hb2
 have hB0 : Below w.heap.size w (w.alloc (.cells #[.string S, .string U, .string H, .int .i64 n, .slice ao F.length ac, .slice bo G.length bc] 24)) := (Below.refl _ _).alloc (ρ _) _
 have bm0 := Blk.new w 24 #[.string S, .string U, .string H, .int .i64 n, .slice ao F.length ac, .slice bo G.length bc]
 obtain ⟨w0, hw0⟩ : ∃ w0, w0 = w.alloc (.cells #[.string S, .string U, .string H, .int .i64 n, .slice ao F.length ac, .slice bo G.length bc] 24) := ⟨_, rfl⟩
 rw [← hw0] at hB0 bm0
 have HX := κ (fun (wx : World) (h : Below w0.heap.size w0 wx) => (show Blk wx w.heap.size 24 #[.string S, .string U, .string H, .int .i64 n, .slice ao F.length ac, .slice bo G.length bc] ∧ Below w.heap.size w wx ∧ True ∧ RPrms wx (.slice ao F.length ac) F ∧ RPrms wx (.slice bo G.length bc) G from by
  have hx := hB0.trans (h.mono hB0.size)
  exact ⟨bm0.call h, hx, trivial, HU1.out.below hx (ρ _), HU2.out.below hx (ρ _)⟩))
 have HW0 := κ hw0
 have hZ : Below w0.heap.size w0 w0 := Below.refl _ _
 obtain ⟨bm, hBB, hMM, hU1, hU2⟩ := HX.out _ hZ
 obtain ⟨p0, p1, p2, p3, p4, p5⟩ := blk_f6 bm
 clear hw0 bm0 hB0
 rcases hcs with ⟨s1, hC⟩ | ⟨s1, s2, hC⟩ | ⟨s1, s2, s3, hC⟩ | ⟨s1, s2, s3, s4, hC⟩ | ⟨s1, s2, s3, s4, s5, hC⟩ | ⟨s1, s2, s3, s4, s5, s6, hC⟩ | ⟨s1, s2, s3, s4, s5, s6, s7, hC⟩ | ⟨s1, s2, s3, s4, s5, s6, s7, hC⟩
 ·rw [s1] at HS
  clear s1
  have HC := κ hC
  clear hC
  go_enter Tryz.func119, Tryz.ntmps119
  go_wp2_with (first | (go_at_call 124; (try rw [← HW0.out]); refine (HS.out _).mono ?_; rintro e wx ⟨rfl, rfl⟩) | (go_at_call 165; refine (HH.out _).mono ?_; rintro e w1 ⟨rfl, hC1⟩; have hZ := hZ.trans (hC1.mono hZ.size); obtain ⟨bm, hBB, hMM, hU1, hU2⟩ := HX.out _ hZ; obtain ⟨p0, p1, p2, p3, p4, p5⟩ := blk_f6 bm) | (go_at_call 166; (first | ((with_reducible refine (HL1.out _ hU1).mono ?_); rintro e w2 ⟨rfl, hC2⟩) | ((with_reducible refine (HL2.out _ hU2).mono ?_); rintro e w2 ⟨rfl, hC2⟩)); have hZ := hZ.trans (hC2.mono hZ.size); obtain ⟨bm, hBB, hMM, hU1, hU2⟩ := HX.out _ hZ; obtain ⟨p0, p1, p2, p3, p4, p5⟩ := blk_f6 bm))
  go_ret
  exact ⟨ret_int HC.out.symm, hBB⟩
 ·rw [s1] at HS
  clear s1
  have HC := κ hC
  clear hC
  go_enter Tryz.func119, Tryz.ntmps119
  go_wp2_with (first | (go_at_call 124; (try rw [← HW0.out]); refine (HS.out _).mono ?_; rintro e wx ⟨rfl, rfl⟩) | (go_at_call 165; refine (HH.out _).mono ?_; rintro e w1 ⟨rfl, hC1⟩; have hZ := hZ.trans (hC1.mono hZ.size); obtain ⟨bm, hBB, hMM, hU1, hU2⟩ := HX.out _ hZ; obtain ⟨p0, p1, p2, p3, p4, p5⟩ := blk_f6 bm) | (go_at_call 166; (first | ((with_reducible refine (HL1.out _ hU1).mono ?_); rintro e w2 ⟨rfl, hC2⟩) | ((with_reducible refine (HL2.out _ hU2).mono ?_); rintro e w2 ⟨rfl, hC2⟩)); have hZ := hZ.trans (hC2.mono hZ.size); obtain ⟨bm, hBB, hMM, hU1, hU2⟩ := HX.out _ hZ; obtain ⟨p0, p1, p2, p3, p4, p5⟩ := blk_f6 bm))
  go_ret
  exact ⟨ret_int HC.out.symm, hBB⟩
 ·rw [s1] at HS
  rw [s3] at HH
  clear s1 s3
  have HC := κ hC
  clear hC
  go_enter Tryz.func119, Tryz.ntmps119
  go_wp2_with (first | (go_at_call 124; (try rw [← HW0.out]); refine (HS.out _).mono ?_; rintro e wx ⟨rfl, rfl⟩) | (go_at_call 165; refine (HH.out _).mono ?_; rintro e w1 ⟨rfl, hC1⟩; have hZ := hZ.trans (hC1.mono hZ.size); obtain ⟨bm, hBB, hMM, hU1, hU2⟩ := HX.out _ hZ; obtain ⟨p0, p1, p2, p3, p4, p5⟩ := blk_f6 bm) | (go_at_call 166; (first | ((with_reducible refine (HL1.out _ hU1).mono ?_); rintro e w2 ⟨rfl, hC2⟩) | ((with_reducible refine (HL2.out _ hU2).mono ?_); rintro e w2 ⟨rfl, hC2⟩)); have hZ := hZ.trans (hC2.mono hZ.size); obtain ⟨bm, hBB, hMM, hU1, hU2⟩ := HX.out _ hZ; obtain ⟨p0, p1, p2, p3, p4, p5⟩ := blk_f6 bm))
  go_ret
  exact ⟨ret_int HC.out.symm, hBB⟩
 ·rw [s1] at HS
  rw [s3] at HH
  have HC := κ hC
  clear s1 s3 hC
  by_cases n0 : n < 0
  rotate_left
  have n1 : 65535 < n := by omega
  rotate_left
  all_goals
   clear s4
   go_enter Tryz.func119, Tryz.ntmps119
   go_wp2_with (first | (go_at_call 124; (try rw [← HW0.out]); refine (HS.out _).mono ?_; rintro e wx ⟨rfl, rfl⟩) | (go_at_call 165; refine (HH.out _).mono ?_; rintro e w1 ⟨rfl, hC1⟩; have hZ := hZ.trans (hC1.mono hZ.size); obtain ⟨bm, hBB, hMM, hU1, hU2⟩ := HX.out _ hZ; obtain ⟨p0, p1, p2, p3, p4, p5⟩ := blk_f6 bm) | (go_at_call 166; (first | ((with_reducible refine (HL1.out _ hU1).mono ?_); rintro e w2 ⟨rfl, hC2⟩) | ((with_reducible refine (HL2.out _ hU2).mono ?_); rintro e w2 ⟨rfl, hC2⟩)); have hZ := hZ.trans (hC2.mono hZ.size); obtain ⟨bm, hBB, hMM, hU1, hU2⟩ := HX.out _ hZ; obtain ⟨p0, p1, p2, p3, p4, p5⟩ := blk_f6 bm))
   go_ret
   exact ⟨ret_int HC.out.symm, hBB⟩
 ·rw [s1] at HS
  rw [s3] at HH
  rw [s5] at HL1
  clear s1 s3 s5
  have n0 : ¬ n < 0 := by omega
  have n1 : ¬ 65535 < n := by omega
  clear s4
  have HC := κ hC
  clear hC
  go_enter Tryz.func119, Tryz.ntmps119
  go_wp2_with (first | (go_at_call 124; (try rw [← HW0.out]); refine (HS.out _).mono ?_; rintro e wx ⟨rfl, rfl⟩) | (go_at_call 165; refine (HH.out _).mono ?_; rintro e w1 ⟨rfl, hC1⟩; have hZ := hZ.trans (hC1.mono hZ.size); obtain ⟨bm, hBB, hMM, hU1, hU2⟩ := HX.out _ hZ; obtain ⟨p0, p1, p2, p3, p4, p5⟩ := blk_f6 bm) | (go_at_call 166; (first | ((with_reducible refine (HL1.out _ hU1).mono ?_); rintro e w2 ⟨rfl, hC2⟩) | ((with_reducible refine (HL2.out _ hU2).mono ?_); rintro e w2 ⟨rfl, hC2⟩)); have hZ := hZ.trans (hC2.mono hZ.size); obtain ⟨bm, hBB, hMM, hU1, hU2⟩ := HX.out _ hZ; obtain ⟨p0, p1, p2, p3, p4, p5⟩ := blk_f6 bm))
  go_ret
  exact ⟨ret_int HC.out.symm, hBB⟩
 ·rw [s1] at HS
  rw [s3] at HH
  rw [s5] at HL1
  rw [s6] at HL2
  clear s1 s3 s5 s6
  have n0 : ¬ n < 0 := by omega
  have n1 : ¬ 65535 < n := by omega
  clear s4
  have HC := κ hC
  clear hC
  go_enter Tryz.func119, Tryz.ntmps119
  go_wp2_with (first | (go_at_call 124; (try rw [← HW0.out]); refine (HS.out _).mono ?_; rintro e wx ⟨rfl, rfl⟩) | (go_at_call 165; refine (HH.out _).mono ?_; rintro e w1 ⟨rfl, hC1⟩; have hZ := hZ.trans (hC1.mono hZ.size); obtain ⟨bm, hBB, hMM, hU1, hU2⟩ := HX.out _ hZ; obtain ⟨p0, p1, p2, p3, p4, p5⟩ := blk_f6 bm) | (go_at_call 166; (first | ((with_reducible refine (HL1.out _ hU1).mono ?_); rintro e w2 ⟨rfl, hC2⟩) | ((with_reducible refine (HL2.out _ hU2).mono ?_); rintro e w2 ⟨rfl, hC2⟩)); have hZ := hZ.trans (hC2.mono hZ.size); obtain ⟨bm, hBB, hMM, hU1, hU2⟩ := HX.out _ hZ; obtain ⟨p0, p1, p2, p3, p4, p5⟩ := blk_f6 bm))
  go_ret
  exact ⟨ret_int HC.out.symm, hBB⟩
 all_goals
  rw [s1] at HS
  rw [s3] at HH
  rw [s5] at HL1
  rw [s6] at HL2
  clear s1 s3 s5 s6
  have n0 : ¬ n < 0 := by omega
  have n1 : ¬ 65535 < n := by omega
  clear s4
  have HC := κ hC
  clear hC
  have HG := κ s7
  clear s7
  go_enter Tryz.func119, Tryz.ntmps119
  go_wp2_with (first | (go_at_call 124; (try rw [← HW0.out]); refine (HS.out _).mono ?_; rintro e wx ⟨rfl, rfl⟩) | (go_at_call 165; refine (HH.out _).mono ?_; rintro e w1 ⟨rfl, hC1⟩; have hZ := hZ.trans (hC1.mono hZ.size); obtain ⟨bm, hBB, hMM, hU1, hU2⟩ := HX.out _ hZ; obtain ⟨p0, p1, p2, p3, p4, p5⟩ := blk_f6 bm) | (go_at_call 166; (first | ((with_reducible refine (HL1.out _ hU1).mono ?_); rintro e w2 ⟨rfl, hC2⟩) | ((with_reducible refine (HL2.out _ hU2).mono ?_); rintro e w2 ⟨rfl, hC2⟩)); have hZ := hZ.trans (hC2.mono hZ.size); obtain ⟨bm, hBB, hMM, hU1, hU2⟩ := HX.out _ hZ; obtain ⟨p0, p1, p2, p3, p4, p5⟩ := blk_f6 bm))
  go_loopw [3] (fun i wr => ∃ k : Nat, k ≤ G.length ∧ i = .int .i64 k ∧ Below w0.heap.size w0 wr ∧ Hid ((G.take k).all (fun h => h.has) = true)) (fun i _ => G.length - (intOf i).toNat)
  case atStart => exact ⟨0, Nat.zero_le _, rfl, hZ, κ rfl⟩
  case round =>
   obtain ⟨k, hk, rfl, hZ, HP⟩ := hrel
   obtain ⟨bm, hBB, hMM, hU1, hU2⟩ := HX.out _ hZ
   obtain ⟨p0, p1, p2, p3, p4, p5⟩ := blk_f6 bm
   by_cases hlt : k < G.length
   ·obtain ⟨b, off, rfl, hb1, hc1⟩ := C2.out (by omega)
    have x0 : wr.cell? ⟨b, off + k * 3, none⟩ = some (sv G[k].name) := by rw [hBB.cell (p := ⟨b, off + k * 3, none⟩) hb1]; exact (hc1 k hlt).1
    have x1 : wr.cell? ⟨b, off + k * 3 + 1, none⟩ = some (sv G[k].value) := by rw [hBB.cell (p := ⟨b, off + k * 3 + 1, none⟩) hb1]; exact (hc1 k hlt).2.1
    have x2 : wr.cell? ⟨b, off + k * 3 + 2, none⟩ = some (.bool G[k].has) := by rw [hBB.cell (p := ⟨b, off + k * 3 + 2, none⟩) hb1]; exact (hc1 k hlt).2.2
    have k0 : (0 : Int) ≤ (k : Int) := by omega
    have k1 : (k : Int) < (G.length : Int) := by omega
    have HN := κ (fun (h : G[k].has = true) => (show (G.take (k + 1)).all (fun h => h.has) = true by rw [List.take_succ_eq_append_getElem hlt, List.all_append, HP.out]; simp [h]))
    have HQ := κ (fun (h : G[k].has = false) => (show (G.all fun h => h.has) = false from by
     rw [← Bool.not_eq_true, List.all_eq_true]; intro ha; have := ha _ (List.getElem_mem hlt); rw [h] at this; cases this))
    unfold sv at x0 x1
    obtain ⟨N, hN⟩ : ∃ N, N = bs G[k].name := ⟨_, rfl⟩
    obtain ⟨V, hV⟩ : ∃ V, V = bs G[k].value := ⟨_, rfl⟩
    rw [← hN] at x0
    rw [← hV] at x1
    obtain ⟨h, hh⟩ : ∃ h, h = G[k].has := ⟨_, rfl⟩
    rw [← hh] at x2 HN HQ
    clear hc1 hb1 hN hV hh HP
    cases h
    ·have hq := HQ.out rfl
     rw [HG.out] at hq
     first
      | (exact absurd hq (by decide))
      | (
        clear hq
        go_wp2
        go_ret
        exact ⟨ret_int HC.out.symm, by first | exact hBB | exact hBB.alloc (by have := hBB.size; omega) _⟩)
    ·have HN' := κ (HN.out rfl)
     go_wp2
     go_roundw
     case rel => exact ⟨k + 1, by omega, by go_num, by first | exact hZ | exact hZ.alloc hZ.size _, HN'⟩
     case measure => simp [intOf]; omega
   ·have hq := HP.out
    rw [List.take_of_length_le (by omega), HG.out] at hq
    first
     | (exact absurd hq (by decide))
     | (
       clear hq
       go_wp2
       go_ret
       exact ⟨ret_int HC.out.symm, hBB⟩)
theorem has3_c (s : ByteArray) (hs : s.size ≤ 9223372036854775807) (c : UInt8) (w : World) :
  Calls Tryz.prog 125 #[.string s, .int .u8 c.toNat] w fun e w' => e = .returned (.bool (hasb (us s) c)) ∧ w = w' := by
 go_enter Tryz.func125, Tryz.ntmps125
 go_wp2
 go_loop [5] (fun i => ∃ k : Nat, k ≤ s.size ∧ i = .int .i64 k ∧ hasb ((us s).drop k) c = hasb (us s) c) (fun i => s.size - (intOf i).toNat)
 case atStart => exact ⟨0, Nat.zero_le _, rfl, rfl⟩
 case round =>
  obtain ⟨k, hk, rfl, hb⟩ := hrel
  have HB := κ hb; clear hb
  by_cases hlt : k < s.size
  ·have hd := κ (drop_us s k hlt)
   go_wp2
   ·go_ret
    rename_i h _
    refine ⟨?_, rfl⟩
    rw [← HB.out, hd.out]; simp at h; simp [hasb]; omega
   ·go_round
    case rel => exact ⟨k + 1, by omega, by go_num, by rename_i h; rw [← HB.out, hd.out]; simp at h; simp [hasb]; omega⟩
    case measure => simp [intOf]; omega
  ·go_wp2
   go_ret
   refine ⟨?_, rfl⟩
   rw [← HB.out, drop_us_end s k (by omega)]; rfl
theorem mayR_cases (K : List UInt8) (c : UInt8) :
  (((c.toNat : Int) != 37) = false ∧ mayW K c = true) ∨ (((c.toNat : Int) != 37) = true ∧ (bits BinOp.and IntKind.i64 (cls c) 16 == 0) = false ∧ mayW K c = true) ∨
  (((c.toNat : Int) != 37) = true ∧ (bits BinOp.and IntKind.i64 (cls c) 16 == 0) = true ∧ hasb K c = true ∧ mayW K c = true) ∨ (((c.toNat : Int) != 37) = true ∧ (bits BinOp.and IntKind.i64 (cls c) 16 == 0) = true ∧ hasb K c = false ∧ mayW K c = false) := by
 rcases mayW_cases K c with h | h | ⟨h1, h2, h3, h4⟩ | ⟨h1, h2, h3, h4⟩
 ·exact .inl h
 ·exact .inr (.inl h)
 ·exact .inr (.inr (.inl ⟨h1, h2, by rw [(idx_has K c).2, decide_eq_true (by omega)], h4⟩))
 ·exact .inr (.inr (.inr ⟨h1, h2, by rw [(idx_has K c).2, decide_eq_false (by omega)], h4⟩))
set_option maxHeartbeats 1600000 in
theorem writtenR_c (s K : ByteArray) (hs : s.size ≤ 4294967280) (hK : K.size ≤ 4294967280) (w : World) :
  Calls Tryz.prog 126 #[.string s, .string K] w fun e w' => e = .returned (.tuple #[.string (bs (optB (writtenS (us s) (us K))).1), .bool (optB (writtenS (us s) (us K))).2]) ∧ Below w.heap.size w w' := by
 have HU := κ (fun wx => unescapeR_c s (by omega) wx)
 have HWB := κ (fun k h hb => written_bad s (us K) k h hb)
 have HWM := κ (fun k h hp hb => written_more s (us K) k h hp hb)
 have HWE := κ (fun k h hp => written_end s (us K) k h hp)
 go_enter Tryz.func126, Tryz.ntmps126
 go_wp2
 go_loop [6] (fun i => ∃ k : Nat, k ≤ s.size ∧ i = .int .i64 k ∧ Hid (((us s).take k).all (mayW (us K)) = true)) (fun i => s.size - (intOf i).toNat)
 case atStart => exact ⟨0, Nat.zero_le _, rfl, κ rfl⟩
 case round =>
  obtain ⟨k, hk, rfl, HP⟩ := hrel
  by_cases hlt : k < s.size
  ·have HH := κ (fun wx => has3_c K (by omega) s[k] wx)
   rcases mayR_cases (us K) s[k] with ⟨h1, hm⟩ | ⟨h1, h2, hm⟩ | ⟨h1, h2, h3, hm⟩ | ⟨h1, h2, h3, hm⟩
   iterate 3
    ·try rw [h3] at HH
     have HN := κ (HWM.out k hlt HP.out hm)
     clear hm
     go_wp2_with (first | (go_at_call 162; refine (classR_c _ _).mono ?_; rintro e w' ⟨rfl, rfl⟩) | (go_at_call 125; refine (HH.out _).mono ?_; rintro e w' ⟨rfl, rfl⟩))
     go_round
     case rel => exact ⟨k + 1, by omega, by go_num, HN⟩
     case measure => simp [intOf]; omega
   ·rw [h3] at HH
    have HN := κ (HWB.out k hlt hm)
    clear hm
    go_wp2_with (first | (go_at_call 162; refine (classR_c _ _).mono ?_; rintro e w' ⟨rfl, rfl⟩) | (go_at_call 125; refine (HH.out _).mono ?_; rintro e w' ⟨rfl, rfl⟩))
    go_ret2
    exact ⟨by rw [HN.out]; rfl, Below.refl _ _⟩
  ·obtain ⟨b, hb1, hb2⟩ := HWE.out k (by omega) HP.out
   have HN := κ hb1
   obtain ⟨q, hq⟩ : ∃ q, q = unescape (us s) := ⟨_, rfl⟩
   rw [← hq] at HU hb2 HN
   clear hq hb1
   obtain ⟨t, e⟩ := q
   dsimp only at HU hb2 HN
   go_wp2_with (first | (go_at_call 170; refine (HU.out _).mono ?_; rintro e w1 ⟨rfl, hC1⟩))
   go_ret2
   exact ⟨ret_sb (by rw [HN.out]) (by rw [HN.out]), hC1⟩
set_option maxHeartbeats 3200000 in
theorem readR_c (v0 : Value) (Ps : List (List UInt8)) (K : ByteArray) (hK : K.size ≤ 4294967280) (w : World) (hv : RStrs w v0 Ps) (hbd : ∀ x ∈ Ps, x.length ≤ 4294967280) (hn : Ps.length ≤ 4294967290) :
  Calls Tryz.prog 129 #[v0, .string K] w (ReadPost (optP (readGo (us K) Ps)) w) := by
 rcases hv.form with ⟨ao, cap, rfl, hm1, c1⟩
 have C1 := κ c1
 have HBD := κ hbd
 clear c1 hv hbd
 unfold maxLen at hm1
 have HRS := κ (fun L k h n v a b ha hb hp => read_step (us K) Ps L k h n v a b ha hb hp)
 have HRE := κ (fun L k h hp => read_end (us K) Ps L k h hp)
 obtain ⟨R, hR⟩ : ∃ R, R = optP (readGo (us K) Ps) := ⟨_, rfl⟩
 rw [← hR] at HRS HRE ⊢
 go_enter Tryz.func129, Tryz.ntmps129
 go_wp2
 go_loopw [6, 7] (fun v i wr => ∃ (k : Nat) (L : List Prm), k ≤ Ps.length ∧ Hid (L.length = k) ∧ i = .int .i64 k ∧ Prms wr w.heap.size v L ∧ Below w.heap.size w wr ∧ Hid (readGo (us K) Ps = (readGo (us K) (Ps.drop k)).map (L ++ ·))) (fun _ i _ => Ps.length - (intOf i).toNat)
 case atStart => exact ⟨0, [], Nat.zero_le _, κ rfl, rfl, Prms.nil _ _, Below.refl _ _, κ (by simp)⟩
 case round =>
  obtain ⟨k, L, hk, HLk, rfl, hown, hB, HP⟩ := hrel
  by_cases hlt : k < Ps.length
  ·obtain ⟨b, off, rfl, hb1, hc1⟩ := C1.out (by omega)
   have x0 : wr.cell? ⟨b, off + k, none⟩ = some (.string (bs Ps[k])) := (hB.cell (p := ⟨b, off + k, none⟩) hb1).trans (hc1 k hlt)
   have hxl := HBD.out _ (List.getElem_mem hlt)
   have hcl := cutb_le 61 Ps[k]
   have HCT := κ (fun wx => cutR_c (bs Ps[k]) (by rw [size_bs]; omega) 61 wx)
   rw [us_bs] at HCT
   have HRk := κ (fun n v a b ha hb => HRS.out L k hlt n v a b ha hb HP.out)
   obtain ⟨X, hX⟩ : ∃ X, X = bs Ps[k] := ⟨_, rfl⟩
   rw [← hX] at x0 HCT
   obtain ⟨q, hq⟩ : ∃ q, q = cutb 61 Ps[k] := ⟨_, rfl⟩
   rw [← hq] at HCT hcl HRk
   clear hX hq hc1 HP
   obtain ⟨n0, v0, has⟩ := q
   dsimp only at HCT hcl HRk
   have HP1 := κ (fun wx => writtenR_c (bs n0) K (by rw [size_bs]; omega) hK wx)
   have HP2 := κ (fun wx => writtenR_c (bs v0) K (by rw [size_bs]; omega) hK wx)
   rw [us_bs] at HP1 HP2
   have HRk' := κ (HRk.out (optB (writtenS n0 (us K))).1 (optB (writtenS v0 (us K))).1 (optB (writtenS n0 (us K))).2 (optB (writtenS v0 (us K))).2 (by rfl) (by rfl))
   have hl1 := optB_len n0 (us K)
   have hl2 := optB_len v0 (us K)
   obtain ⟨a, ha⟩ : ∃ a, a = optB (writtenS n0 (us K)) := ⟨_, rfl⟩
   obtain ⟨c, hc⟩ : ∃ a, a = optB (writtenS v0 (us K)) := ⟨_, rfl⟩
   rw [← ha] at HP1 HRk' hl1
   rw [← hc] at HP2 HRk' hl2
   clear ha hc HRk
   obtain ⟨n, a⟩ := a
   obtain ⟨v, c⟩ := c
   dsimp only at HP1 HP2 HRk' hl1 hl2
   have hcs := HRk'.out
   have HO := κ hown
   have HB := κ hB
   have k0 : (0 : Int) ≤ (k : Int) := by omega
   have k1 : (k : Int) < (Ps.length : Int) := by omega
   obtain ⟨N, hN⟩ : ∃ N, N = bs n := ⟨_, rfl⟩
   obtain ⟨V, hV⟩ : ∃ V, V = bs v := ⟨_, rfl⟩
   rw [← hN] at HP1
   rw [← hV] at HP2
   have HNu := κ (show us N = n by rw [hN, us_bs])
   have HVu := κ (show us V = v by rw [hV, us_bs])
   clear hN hV hown hB hb1 HRk'
   rcases hcs with ⟨rfl, hR0⟩ | ⟨rfl, rfl, hR0⟩ | ⟨rfl, rfl, hst⟩
   iterate 2
    ·have HE := κ hR0
     clear hR0
     go_wp2_with (first | (go_at_call 122; refine (HCT.out _).mono ?_; rintro e w1 ⟨rfl, hD⟩; have hb1 := HB.out.trans (hD.below (B := w.heap.size)); have ho1 := HO.out.below (hD.below (B := wr.heap.size)) (ρ _)) | (go_at_call 126; (first | ((with_reducible refine (HP1.out _).mono ?_); rintro e w2 ⟨rfl, hC2⟩) | ((with_reducible refine (HP2.out _).mono ?_); rintro e w2 ⟨rfl, hC2⟩)); have ho1 := ho1.below hC2 (ρ _); have hb1 := hb1.trans (hC2.mono hb1.size)))
     go_ret2
     exact ⟨_, by rw [HE.out]; rfl, .inl ⟨⟨_, _, rfl⟩, by rw [HE.out]⟩, Fresh.nil _ _ _, hb1⟩
   ·have HE := κ hst
    clear hst
    go_wp2_with (first | (go_at_call 122; refine (HCT.out _).mono ?_; rintro e w1 ⟨rfl, hD⟩; have hb1 := HB.out.trans (hD.below (B := w.heap.size)); have ho1 := HO.out.below (hD.below (B := wr.heap.size)) (ρ _)) | (go_at_call 126; (first | ((with_reducible refine (HP1.out _).mono ?_); rintro e w2 ⟨rfl, hC2⟩) | ((with_reducible refine (HP2.out _).mono ?_); rintro e w2 ⟨rfl, hC2⟩)); have ho1 := ho1.below hC2 (ρ _); have hb1 := hb1.trans (hC2.mono hb1.size)) | (at_builtin; refine wpList_appP1 ⟨n, v, has⟩ HNu.out HVu.out rfl rfl rfl Tryz.underlying22 infoP rfl rfl ho1 hb1 (ρ _) ?_ ?_; (focus (have := HLk.out; omega)); intro v' w' hown2 hb2))
    go_roundw
    case rel => exact ⟨k + 1, _, by omega, κ (by rw [List.length_append, HLk.out]; rfl), by go_num, hown2, hb2, HE⟩
    case measure => simp [intOf]; omega
  ·have HE := κ (HRE.out L k (by omega) HP.out)
   clear HP
   go_wp2
   go_ret2
   exact ⟨_, by rw [HE.out]; rfl, by rw [HE.out]; exact hown.read, hown.fresh, hB⟩
theorem openR_c (s : ByteArray) (hs : s.size ≤ 4294967280) (w : World) :
  Calls Tryz.prog 131 #[.string s] w fun e w' => e = .returned (.int .i64 (angS (us s))) ∧ w = w' := by
 have HST := κ (fun b k h hp => ang_step s b k h hp)
 go_enter Tryz.func131, Tryz.ntmps131
 go_wp2
 go_loop [3, 4] (fun q i => ∃ (b : Bool) (k : Nat), k ≤ s.size + 1 ∧ q = .bool b ∧ i = .int .i64 k ∧ Hid (angS (us s) = angGo b ((us s).drop k) (k : Int))) (fun _ i => s.size + 1 - (intOf i).toNat)
 case atStart => exact ⟨false, 0, Nat.zero_le _, rfl, rfl, κ rfl⟩
 case round =>
  obtain ⟨b, k, hk, rfl, rfl, HP⟩ := hrel
  by_cases hlt : k < s.size
  ·have k0 : (0 : Int) ≤ (k : Int) := by omega
   have k1 : (k : Int) < (s.size : Int) := by omega
   rcases HST.out b k hlt HP.out with ⟨rfl, h1, hn⟩ | ⟨h1, h2, hn⟩ | ⟨h1, h2, rfl, h3, hn⟩ | ⟨h1, h2, h3, hn⟩
   ·have HN := κ hn
    clear hn HP
    go_wp2
    go_round
    case rel => exact ⟨true, k + 2, by omega, rfl, by go_num, HN⟩
    case measure => simp [intOf]; omega
   ·have HN := κ hn
    have h5 : ((s[k].toNat : Int) == 60) = false := by have := h2; simp at this ⊢; omega
    clear hn HP
    cases b
    all_goals
     first | (have h4 : ((s[k].toNat : Int) == 92) = false := by simpa using h1) | skip
     clear h1
     go_wp2
     go_round
     case rel => exact ⟨_, k + 1, by omega, rfl, by go_num, HN⟩
     case measure => simp [intOf]; omega
   ·have HN := κ hn
    clear hn HP h1
    go_wp2
    go_ret
    exact ⟨ret_int HN.out.symm, rfl⟩
   ·have HN := κ hn
    clear hn HP
    cases b
    ·have h4 : ((s[k].toNat : Int) == 60) = false := by simpa using h3
     clear h1 h3
     go_wp2
     go_round
     case rel => exact ⟨_, k + 1, by omega, rfl, by go_num, HN⟩
     case measure => simp [intOf]; omega
    ·have h4 : ((s[k].toNat : Int) == 92) = false := by simpa using h1
     clear h1 h3
     cases h6 : ((s[k].toNat : Int) == 60)
     all_goals
      go_wp2
      go_round
      case rel => exact ⟨_, k + 1, by omega, rfl, by go_num, HN⟩
      case measure => simp [intOf]; omega
  ·have HN := κ (show angS (us s) = -1 by rw [HP.out, drop_us_end s k (by omega), ang_end])
   clear HP
   go_wp2
   go_ret
   exact ⟨ret_int HN.out.symm, rfl⟩
theorem clsB_eq (c : UInt8) : (cls c == 32) = blank c := by
 have := all_bytes (fun c => (cls c == 32) = blank c) (by decide +kernel) c
 exact this
theorem dsp1 {T : ByteArray} {L : List (List UInt8)} {cur : List UInt8} {k : Nat} (h : k < T.size) (hw : wordsGo [] (us T) = L ++ wordsGo cur ((us T).drop k)) (hb : blank T[k] = true) (hc : cur ≠ []) :
  wordsGo [] (us T) = (L ++ [cur]) ++ wordsGo [] ((us T).drop (k + 1)) := by rw [hw, drop_us T k h, wordsGo, if_pos hb, if_neg hc]; simp
theorem dsp2 {T : ByteArray} {L : List (List UInt8)} {k : Nat} (h : k < T.size) (hw : wordsGo [] (us T) = L ++ wordsGo [] ((us T).drop k)) (hb : blank T[k] = true) :
  wordsGo [] (us T) = L ++ wordsGo [] ((us T).drop (k + 1)) := by rw [hw, drop_us T k h, wordsGo, if_pos hb, if_pos rfl]
theorem dsp3 {T : ByteArray} {L : List (List UInt8)} {cur : List UInt8} {k : Nat} (h : k < T.size) (hw : wordsGo [] (us T) = L ++ wordsGo cur ((us T).drop k)) (hb : blank T[k] = false) :
  wordsGo [] (us T) = L ++ wordsGo (cur ++ [T[k]]) ((us T).drop (k + 1)) := by rw [hw, drop_us T k h, wordsGo, if_neg (by rw [hb]; decide)]
theorem dsp_all {T : ByteArray} {k : Nat} (h : k < T.size) (hp : ((us T).take k).all dispb = true) (hb : dispb T[k] = true) : ((us T).take (k + 1)).all dispb = true := by
 rw [take_us T k h, List.all_append, hp]; simp [hb]
theorem dsp_no {T : ByteArray} {k : Nat} (h : k < T.size) (ho : opens 34 (us T) = false) (hb : dispb T[k] = false) : optB (dispT (us T)) = ([], false) := by
 unfold dispT
 rw [ho, if_neg (by decide), if_neg]
 ·rfl
 ·intro ha
  have := List.all_eq_true.1 ha T[k] (List.mem_of_getElem? (get_us T k h))
  rw [hb] at this; cases this
theorem dsp_yes {T : ByteArray} {k : Nat} (h : T.size ≤ k) (ho : opens 34 (us T) = false) (hp : ((us T).take k).all dispb = true) : optB (dispT (us T)) = (glue [32] (wordsGo [] (us T)), true) := by
 rw [List.take_of_length_le (by rw [length_us]; exact h)] at hp
 unfold dispT
 rw [ho, if_neg (by decide), if_pos hp]; rfl
theorem glue1_len : ∀ L : List (List UInt8), (glue [32] L).length ≤ sumJ L + L.length
 | [] => Nat.zero_le _
 | [x] => by rw [glue]; simp [sumJ]
 | x :: y :: l => by
  have := glue1_len (y :: l)
  rw [glue_cons [32] x (y :: l) (by simp), List.length_append, List.length_append, sumJ]
  simp at this ⊢; omega
theorem opens_cases (T : ByteArray) : (T.size = 0 ∧ opens 34 (us T) = false) ∨ (∃ h : 0 < T.size, (((T[0]'h).toNat : Int) == 34) = opens 34 (us T)) := by
 by_cases h : 0 < T.size
 ·refine .inr ⟨h, ?_⟩
  have := drop_us T 0 h
  rw [List.drop_zero] at this
  rw [this, opens, Bool.eq_iff_iff, beq_iff_eq]
  first | (rw [beq_iff_eq]; omega) | (simp; omega) | (rw [decide_eq_true_iff]; omega)
 ·refine .inl ⟨by omega, ?_⟩
  have : us T = [] := List.eq_nil_of_length_eq_zero (by rw [length_us]; omega)
  rw [this]; rfl
set_option maxHeartbeats 6400000 in
theorem dispR_c (s : ByteArray) (hs : s.size ≤ 4294967280) (w : World) :
  Calls Tryz.prog 132 #[.string s] w fun e w' => e = .returned (.tuple #[.string (bs (optB (displayS (us s))).1), .bool (optB (displayS (us s))).2]) ∧ Below w.heap.size w w' := by
 have HTR := κ (fun wx => trimR_c s (by omega) wx)
 have htl := trim_le (us s)
 rw [length_us] at htl
 have hdd : displayS (us s) = dispT (trim (us s)) := rfl
 obtain ⟨T, hT⟩ : ∃ T, T = bs (trim (us s)) := ⟨_, rfl⟩
 have uT : trim (us s) = us T := by rw [hT, us_bs]
 have sT : T.size ≤ 4294967280 := by rw [hT, size_bs]; omega
 rw [← hT] at HTR
 rw [hdd, uT]
 clear hT uT hdd htl hs
 have hq := disp_quote (us T)
 have hyes := fun k h ho hp => dsp_yes (T := T) (k := k) h ho hp
 have hno := fun k h ho hb => dsp_no (T := T) (k := k) h ho hb
 have hoc := opens_cases T
 have hws := words_sum (us T) []
 have hgl := glue1_len (wordsGo [] (us T))
 rw [length_us] at hws
 obtain ⟨R, hR⟩ : ∃ R, R = optB (dispT (us T)) := ⟨_, rfl⟩
 rw [← hR] at hq hyes hno ⊢
 clear hR
 obtain ⟨o, ho⟩ : ∃ o, o = opens 34 (us T) := ⟨_, rfl⟩
 rw [← ho] at hq hyes hno hoc
 clear ho
 cases o
 case true =>
  rcases hoc with ⟨_, h⟩ | ⟨h0, hc⟩
  ·cases h
  have HR := κ (hq rfl)
  have HU := κ (fun wx => unquoteR_c T (by omega) wx)
  clear hq hyes hno hws hgl
  obtain ⟨q, hq⟩ : ∃ q, q = unquote (us T) := ⟨_, rfl⟩
  rw [← hq] at HU HR
  clear hq
  have k1 : (0 : Int) < (T.size : Int) := by omega
  go_enter Tryz.func132, Tryz.ntmps132
  go_wp2_with (first | (go_at_call 130; refine (HTR.out _).mono ?_; rintro e wx ⟨rfl, rfl⟩) | (go_at_call 172; refine (HU.out _).mono ?_; rintro e w1 ⟨rfl, hC1⟩))
  go_ret2
  exact ⟨ret_sb (by rw [HR.out]) (by rw [HR.out]), hC1⟩
 case false =>
  have HYES := κ (fun k h hp => hyes k h rfl hp)
  have HNO := κ (fun k h hb => hno k h rfl hb)
  have hB00 : Below w.heap.size w w := Below.refl _ _
  have hgb : (glue [32] (wordsGo [] (us T))).length ≤ 17179869184 := by
   refine Nat.le_trans hgl ?_
   simp at hws
   omega
  have HGB := κ hgb
  have HWL := κ (show (wordsGo [] (us T)).length ≤ 8589934592 by simp at hws; omega)
  clear hq hyes hno hws hgl hgb
  have hrest : ∃ b : Bool, (T.size = 0 ∧ b = true) ∨ (b = false ∧ ∃ h : 0 < T.size, (((T[0]'h).toNat : Int) == 34) = false) := by
   rcases hoc with ⟨h, _⟩ | ⟨h, h2⟩
   ·exact ⟨true, .inl ⟨h, rfl⟩⟩
   ·exact ⟨false, .inr ⟨rfl, h, h2⟩⟩
  clear hoc
  obtain ⟨b, hb⟩ := hrest
  rcases hb with ⟨hz, rfl⟩ | ⟨rfl, hz, hz2⟩
  ·go_enter Tryz.func132, Tryz.ntmps132
   go_wp2_with (go_at_call 130; refine (HTR.out _).mono ?_; rintro e wx ⟨rfl, rfl⟩)
   (try clear hz2)
   go_loopw [6, 7, 8] (fun v x i wr => ∃ (k : Nat) (L : List (List UInt8)) (W : ByteArray), k ≤ T.size ∧ i = .int .i64 k ∧ x = .string W ∧ Strs wr w.heap.size 9 v L ∧ Below w.heap.size w wr ∧ Hid (wordsGo [] (us T) = L ++ wordsGo (us W) ((us T).drop k)) ∧ Hid (((us T).take k).all dispb = true) ∧ W.size + L.length ≤ k) (fun _ _ i _ => T.size - (intOf i).toNat)
   case atStart => exact ⟨0, [], ⟨#[]⟩, Nat.zero_le _, rfl, rfl, Strs.nil _ _ _, hB00, κ rfl, κ rfl, by decide⟩
   case round =>
    obtain ⟨k, L, W, hk, rfl, rfl, hown, hB, HW, HP, hsz⟩ := hrel
    have hlt : ¬ k < T.size := by omega
    have HE := κ (HYES.out k (by omega) HP.out)
    have HL : wordsGo [] (us T) = L ++ (if us W = [] then [] else [us W]) := by rw [HW.out, drop_us_end T k (by omega), wordsGo]
    by_cases hw0 : W.size = 0
    ·have hW0 : us W = [] := List.eq_nil_of_length_eq_zero (by rw [length_us]; exact hw0)
     rw [if_pos hW0, List.append_nil] at HL
     obtain rfl := eq_empty hw0
     have HGL := κ (fun wx v hv => glue_c v L ⟨#[32]⟩ wx hv (by rw [show us ⟨#[32]⟩ = [32] from rfl, ← HL]; have := HGB.out; omega))
     rw [show us ⟨#[32]⟩ = [32] from rfl, ← HL] at HGL
     have hrd := hown.read
     rw [← HL] at hrd
     clear HL hw0 hW0 HW HP
     go_wp2_with (go_at_call 173; refine (HGL.out _ _ hrd).mono ?_; rintro e w4 ⟨rfl, hC4⟩)
     go_ret2
     exact ⟨ret_sb (by rw [HE.out]) (by rw [HE.out]), hB.trans (hC4.mono hB.size)⟩
    ·exfalso; omega
  ·go_enter Tryz.func132, Tryz.ntmps132
   go_wp2_with (go_at_call 130; refine (HTR.out _).mono ?_; rintro e wx ⟨rfl, rfl⟩)
   (try clear hz2)
   go_loopw [6, 7, 8] (fun v x i wr => ∃ (k : Nat) (L : List (List UInt8)) (W : ByteArray), k ≤ T.size ∧ i = .int .i64 k ∧ x = .string W ∧ Strs wr w.heap.size 9 v L ∧ Below w.heap.size w wr ∧ Hid (wordsGo [] (us T) = L ++ wordsGo (us W) ((us T).drop k)) ∧ Hid (((us T).take k).all dispb = true) ∧ W.size + L.length ≤ k) (fun _ _ i _ => T.size - (intOf i).toNat)
   case atStart => exact ⟨0, [], ⟨#[]⟩, Nat.zero_le _, rfl, rfl, Strs.nil _ _ _, hB00, κ rfl, κ rfl, by decide⟩
   case round =>
    obtain ⟨k, L, W, hk, rfl, rfl, hown, hB, HW, HP, hsz⟩ := hrel
    by_cases hlt : k < T.size
    ·have k0 : (0 : Int) ≤ (k : Int) := by omega
     have k1 : (k : Int) < (T.size : Int) := by omega
     have hcb := clsB_eq T[k]
     have hdb : dispb T[k] = (blank T[k] || !(bits BinOp.and IntKind.i64 (cls T[k]) 8 == 0)) := rfl
     have hal := fun h => dsp_all hlt HP.out h
     have hno := HNO.out k hlt
     have d1 := fun hb hc => dsp1 hlt HW.out hb hc
     have d3 := fun hb => dsp3 hlt HW.out hb
     have d2 := fun (h0 : us W = []) hb => dsp2 (L := L) hlt (h0 ▸ HW.out) hb
     rw [hdb] at hal hno
     clear hdb HP HW
     obtain ⟨bl, hbl⟩ : ∃ b, b = blank T[k] := ⟨_, rfl⟩
     rw [← hbl] at hcb hal hno d1 d2 d3
     clear hbl
     cases bl with
     | true =>
      have HAL := κ (hal rfl)
      by_cases hw0 : W.size = 0
      ·have hW0 : us W = [] := List.eq_nil_of_length_eq_zero (by rw [length_us]; exact hw0)
       have HD := κ (d2 hW0 rfl)
       obtain rfl := eq_empty hw0
       clear d1 d2 d3 hal hno hw0 hW0
       go_wp2_with (go_at_call 162; refine (classR_c _ _).mono ?_; rintro e w' ⟨rfl, rfl⟩)
       go_roundw
       case rel => exact ⟨k + 1, L, ⟨#[]⟩, by omega, by go_num, rfl, hown, hB, HD, HAL, by have h1 : ByteArray.empty.size = 0 := rfl; show 0 + L.length ≤ _; omega⟩
       case measure => simp [intOf]; omega
      ·have hW0 : us W ≠ [] := fun h => hw0 (by rw [← length_us, h]; rfl)
       have HD := κ (d1 rfl hW0)
       have pE := ne_empty hw0
       have pF := isEmpty_f hw0
       clear d1 d2 d3 hal hno hW0
       go_wp2_with (first | (go_at_call 162; refine (classR_c _ _).mono ?_; rintro e w' ⟨rfl, rfl⟩) | (at_builtin; refine wpList_appS1 (us W) rfl rfl rfl Tryz.underlying30 infoS rfl rfl hown hB (ρ _) ?_ ?_; (focus omega); intro v1 w3 ho1 hb1))
       go_roundw
       case rel => exact ⟨k + 1, _, ⟨#[]⟩, by omega, by go_num, rfl, ho1, hb1, HD, HAL, by rw [List.length_append]; show 0 + (L.length + 1) ≤ _; omega⟩
       case measure => simp [intOf]; omega
     | false =>
      have HD := κ (d3 rfl)
      cases h8 : (bits BinOp.and IntKind.i64 (cls T[k]) 8 == 0) with
      | true =>
       rw [h8] at hno
       have HN := κ (hno rfl)
       clear d1 d2 d3 hal hno
       go_wp2_with (go_at_call 162; refine (classR_c _ _).mono ?_; rintro e w' ⟨rfl, rfl⟩)
       go_ret2
       exact ⟨by rw [HN.out]; rfl, hB⟩
      | false =>
       rw [h8] at hal
       have HAL := κ (hal rfl)
       clear d1 d2 d3 hal hno
       go_wp2_with (go_at_call 162; refine (classR_c _ _).mono ?_; rintro e w' ⟨rfl, rfl⟩)
       go_roundw
       case rel => exact ⟨k + 1, L, _, by omega, by go_num, rfl, hown, hB, κ (by rw [HD.out, us_append, us_extract]; congr 2; rw [drop_us T k hlt]; simp), HAL, by rw [ByteArray.size_append, size_extract _ _ _ (by omega)]; omega⟩
       case measure => simp [intOf]; omega
    ·have HE := κ (HYES.out k (by omega) HP.out)
     have HL : wordsGo [] (us T) = L ++ (if us W = [] then [] else [us W]) := by rw [HW.out, drop_us_end T k (by omega), wordsGo]
     by_cases hw0 : W.size = 0
     ·have hW0 : us W = [] := List.eq_nil_of_length_eq_zero (by rw [length_us]; exact hw0)
      rw [if_pos hW0, List.append_nil] at HL
      obtain rfl := eq_empty hw0
      have HGL := κ (fun wx v hv => glue_c v L ⟨#[32]⟩ wx hv (by rw [show us ⟨#[32]⟩ = [32] from rfl, ← HL]; have := HGB.out; omega))
      rw [show us ⟨#[32]⟩ = [32] from rfl, ← HL] at HGL
      have hrd := hown.read
      rw [← HL] at hrd
      clear HL hw0 hW0 HW HP
      go_wp2_with (go_at_call 173; refine (HGL.out _ _ hrd).mono ?_; rintro e w4 ⟨rfl, hC4⟩)
      go_ret2
      exact ⟨ret_sb (by rw [HE.out]) (by rw [HE.out]), hB.trans (hC4.mono hB.size)⟩
     ·have hW0 : us W ≠ [] := fun h => hw0 (by rw [← length_us, h]; rfl)
      rw [if_neg hW0] at HL
      have pE := ne_empty hw0
      have pF := isEmpty_f hw0
      have HGL := κ (fun wx v hv => glue_c v (L ++ [us W]) ⟨#[32]⟩ wx hv (by rw [show us ⟨#[32]⟩ = [32] from rfl, ← HL]; have := HGB.out; omega))
      rw [show us ⟨#[32]⟩ = [32] from rfl, ← HL] at HGL
      have HLh := κ HL
      clear HL hW0 HW HP
      go_wp2_with (first | (at_builtin; refine wpList_appS1 (us W) rfl rfl rfl Tryz.underlying30 infoS rfl rfl hown hB (ρ _) ?_ ?_; (focus omega); intro v1 w3 ho1 hb1) | (go_at_call 173; refine (HGL.out _ _ (HLh.out.symm ▸ ho1.read)).mono ?_; rintro e w4 ⟨rfl, hC4⟩))
      go_ret2
      exact ⟨ret_sb (by rw [HE.out]) (by rw [HE.out]), hb1.trans (hC4.mono hb1.size)⟩
end Go.Proofs.YtipdiddjhimdcaaGreatDoor
