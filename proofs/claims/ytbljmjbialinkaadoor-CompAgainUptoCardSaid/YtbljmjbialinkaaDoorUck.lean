/-
  uri.Scheme, uri.Check.
-/
import Derived.Test.YtbljmjbialinkaaDoorUrl
import Derived.Test.YtbljmjbialinkaaDoorUrc
namespace Go.Proofs.YtbljmjbialinkaaDoor
set_option linter.unusedSimpArgs false
set_option linter.unusedVariables false
open Go.RowKit

theorem scheme_c (s : ByteArray) (w : World) :
    Calls Tryd.prog 27 #[.string s] w fun e w' => e = .returned (.bool (schemeS (us s))) ∧ w = w' := by
  by_cases h1 : us s = nSip
  · obtain rfl : s = ⟨#[115, 105, 112]⟩ := us_inj h1
    clear h1
    go_enter Tryd.func27, Tryd.ntmps27
    go_wp2
    go_ret
    exact ⟨ret_bool (by decide +kernel), rfl⟩
  by_cases h2 : us s = nSips
  · obtain rfl : s = ⟨#[115, 105, 112, 115]⟩ := us_inj h2
    clear h1 h2
    go_enter Tryd.func27, Tryd.ntmps27
    go_wp2
    go_ret
    exact ⟨ret_bool (by decide +kernel), rfl⟩
  by_cases h3 : us s = nPres
  · obtain rfl : s = ⟨#[112, 114, 101, 115]⟩ := us_inj h3
    clear h1 h2 h3
    go_enter Tryd.func27, Tryd.ntmps27
    go_wp2
    go_ret
    exact ⟨ret_bool (by decide +kernel), rfl⟩
  have HE := Lib.hid (show schemeS (us s) = false by unfold schemeS; simp [h1, h2, h3])
  have n1 : ¬ s.toList = [115, 105, 112] := by rw [toList_us]; exact h1
  have n2 : ¬ s.toList = [115, 105, 112, 115] := by rw [toList_us]; exact h2
  have n3 : ¬ s.toList = [112, 114, 101, 115] := by rw [toList_us]; exact h3
  clear h1 h2 h3
  go_enter Tryd.func27, Tryd.ntmps27
  go_wp2
  go_ret
  exact ⟨ret_bool (by rw [HE.out]; simp [n1, n2, n3]), rfl⟩
theorem checkU_cases (S U H : ByteArray) (n : Int) (F G : List Prm) :
    (schemeS (us S) = false ∧ checkU ⟨us S, us U, us H, n, F, G⟩ = 30) ∨ (schemeS (us S) = true ∧ 64 < U.size ∧ checkU ⟨us S, us U, us H, n, F, G⟩ = 31) ∨
    (schemeS (us S) = true ∧ ¬ 64 < U.size ∧ hostS (us H) = false ∧ checkU ⟨us S, us U, us H, n, F, G⟩ = 32) ∨
    (schemeS (us S) = true ∧ ¬ 64 < U.size ∧ hostS (us H) = true ∧ (n < 0 ∨ 65535 < n) ∧ checkU ⟨us S, us U, us H, n, F, G⟩ = 33) ∨
    (schemeS (us S) = true ∧ ¬ 64 < U.size ∧ hostS (us H) = true ∧ ¬ (n < 0 ∨ 65535 < n) ∧ listU F = false ∧ checkU ⟨us S, us U, us H, n, F, G⟩ = 34) ∨
    (schemeS (us S) = true ∧ ¬ 64 < U.size ∧ hostS (us H) = true ∧ ¬ (n < 0 ∨ 65535 < n) ∧ listU F = true ∧ listU G = false ∧ checkU ⟨us S, us U, us H, n, F, G⟩ = 34) ∨
    (schemeS (us S) = true ∧ ¬ 64 < U.size ∧ hostS (us H) = true ∧ ¬ (n < 0 ∨ 65535 < n) ∧ listU F = true ∧ listU G = true ∧ (G.all fun h => h.has) = false ∧ checkU ⟨us S, us U, us H, n, F, G⟩ = 34) ∨
    (schemeS (us S) = true ∧ ¬ 64 < U.size ∧ hostS (us H) = true ∧ ¬ (n < 0 ∨ 65535 < n) ∧ listU F = true ∧ listU G = true ∧ (G.all fun h => h.has) = true ∧ checkU ⟨us S, us U, us H, n, F, G⟩ = 0) := by
  unfold checkU
  dsimp only
  rw [length_us]
  cases schemeS (us S)
  · exact .inl ⟨rfl, rfl⟩
  refine .inr ?_
  rw [if_neg (by decide)]
  by_cases h1 : 64 < U.size
  · exact .inl ⟨rfl, h1, if_pos h1⟩
  refine .inr ?_
  rw [if_neg h1]
  cases hostS (us H)
  · exact .inl ⟨rfl, h1, rfl, rfl⟩
  refine .inr ?_
  rw [if_neg (by decide)]
  by_cases h2 : n < 0 ∨ 65535 < n
  · exact .inl ⟨rfl, h1, rfl, h2, if_pos h2⟩
  refine .inr ?_
  rw [if_neg h2]
  cases listU F
  · exact .inl ⟨rfl, h1, rfl, h2, rfl, rfl⟩
  refine .inr ?_
  rw [if_neg (by decide)]
  cases listU G
  · exact .inl ⟨rfl, h1, rfl, h2, rfl, rfl, rfl⟩
  refine .inr ?_
  rw [if_neg (by decide)]
  cases (G.all fun h => h.has)
  · exact .inl ⟨rfl, h1, rfl, h2, rfl, rfl, rfl, rfl⟩
  · exact .inr ⟨rfl, h1, rfl, h2, rfl, rfl, rfl, rfl⟩
theorem blk_f6 {w : World} {g : Nat} {t : TypeId} {a b c d e f : Value} (h : Blk w g t #[a, b, c, d, e, f]) :
    w.cell? ⟨g, 0, none⟩ = some a ∧ w.cell? ⟨g, 1, none⟩ = some b ∧ w.cell? ⟨g, 2, none⟩ = some c ∧ w.cell? ⟨g, 3, none⟩ = some d ∧ w.cell? ⟨g, 4, none⟩ = some e ∧ w.cell? ⟨g, 5, none⟩ = some f :=
  ⟨boxedCell h 0, boxedCell h 1, boxedCell h 2, boxedCell h 3, boxedCell h 4, boxedCell h 5⟩

set_option maxRecDepth 100000 in
set_option maxHeartbeats 6400000 in
theorem checkU_c (S U H : ByteArray) (n : Int) (u1 u2 : Value) (F G : List Prm) (hS : S.size ≤ 4294967280) (hH : H.size ≤ 4294967280) (w : World) (hm : Ml w) (h1 : RPrms w u1 F) (h2 : RPrms w u2 G) (hb1 : ∀ p ∈ F, p.name.length ≤ 4294967280 ∧ p.value.length ≤ 4294967280) (hb2 : ∀ p ∈ G, p.name.length ≤ 4294967280 ∧ p.value.length ≤ 4294967280) :
    Calls Tryd.prog 32 #[.agg #[.string S, .string U, .string H, .int .i64 n, u1, u2]] w fun e w' => e = .returned (.int .i64 (checkU ⟨us S, us U, us H, n, F, G⟩)) ∧ Below w.heap.size w w' := by
  have HS := Lib.hid (fun wx => scheme_c S wx)
  have HH := Lib.hid (fun wx hx => host_c H hH wx hx)
  have HU1 := Lib.hid h1
  have HU2 := Lib.hid h2
  have HM := Lib.hid hm
  obtain ⟨ao, ac, rfl, hm1, c1⟩ := h1.form
  obtain ⟨bo, bc, rfl, hm2, c2⟩ := h2.form
  have C2 := Lib.hid c2
  have HL1 := Lib.hid (fun wx hx => listF_c (.slice ao F.length ac) F wx hx hb1)
  have HL2 := Lib.hid (fun wx hx => listF_c (.slice bo G.length bc) G wx hx hb2)
  unfold maxLen at hm2
  have hcs := checkU_cases S U H n F G
  obtain ⟨C, hC⟩ : ∃ C, C = checkU ⟨us S, us U, us H, n, F, G⟩ := ⟨_, rfl⟩
  rw [← hC] at hcs ⊢
  clear hC c1 c2 h1 h2 hm1 hm hb1 hb2
  have hB0 : Below w.heap.size w (w.alloc (.cells #[.string S, .string U, .string H, .int .i64 n, .slice ao F.length ac, .slice bo G.length bc] 58)) := (Below.refl _ _).alloc (Nat.le_refl _) _
  have bm0 := Blk.new w 58 #[.string S, .string U, .string H, .int .i64 n, .slice ao F.length ac, .slice bo G.length bc]
  obtain ⟨w0, hw0⟩ : ∃ w0, w0 = w.alloc (.cells #[.string S, .string U, .string H, .int .i64 n, .slice ao F.length ac, .slice bo G.length bc] 58) := ⟨_, rfl⟩
  rw [← hw0] at hB0 bm0
  have HX := Lib.hid (fun (wx : World) (h : Below w0.heap.size w0 wx) => (show Blk wx w.heap.size 58 #[.string S, .string U, .string H, .int .i64 n, .slice ao F.length ac, .slice bo G.length bc] ∧ Below w.heap.size w wx ∧ Ml wx ∧ RPrms wx (.slice ao F.length ac) F ∧ RPrms wx (.slice bo G.length bc) G from by
    have hx := hB0.trans (h.mono hB0.size)
    exact ⟨bm0.call h, hx, HM.out.below hx, HU1.out.below hx (Nat.le_refl _), HU2.out.below hx (Nat.le_refl _)⟩))
  have HW0 := Lib.hid hw0
  have hZ : Below w0.heap.size w0 w0 := Below.refl _ _
  obtain ⟨bm, hBB, hMM, hU1, hU2⟩ := HX.out _ hZ
  obtain ⟨p0, p1, p2, p3, p4, p5⟩ := blk_f6 bm
  clear hw0 bm0 hB0
  rcases hcs with ⟨s1, hC⟩ | ⟨s1, s2, hC⟩ | ⟨s1, s2, s3, hC⟩ | ⟨s1, s2, s3, s4, hC⟩ | ⟨s1, s2, s3, s4, s5, hC⟩ | ⟨s1, s2, s3, s4, s5, s6, hC⟩ | ⟨s1, s2, s3, s4, s5, s6, s7, hC⟩ | ⟨s1, s2, s3, s4, s5, s6, s7, hC⟩
  · rw [s1] at HS
    clear s1
    have HC := Lib.hid hC
    clear hC
    go_enter Tryd.func32, Tryd.ntmps32
    go_wp2_with (first | (go_at_call 27; (try rw [← HW0.out]); refine (HS.out _).mono ?_; rintro e wx ⟨rfl, rfl⟩) | (go_at_call 45; refine (HH.out _ hMM).mono ?_; rintro e w1 ⟨rfl, hC1⟩; have hZ := hZ.trans (hC1.mono hZ.size); obtain ⟨bm, hBB, hMM, hU1, hU2⟩ := HX.out _ hZ; obtain ⟨p0, p1, p2, p3, p4, p5⟩ := blk_f6 bm) | (go_at_call 47; (first | ((with_reducible refine (HL1.out _ hU1).mono ?_); rintro e w2 ⟨rfl, hC2⟩) | ((with_reducible refine (HL2.out _ hU2).mono ?_); rintro e w2 ⟨rfl, hC2⟩)); have hZ := hZ.trans (hC2.mono hZ.size); obtain ⟨bm, hBB, hMM, hU1, hU2⟩ := HX.out _ hZ; obtain ⟨p0, p1, p2, p3, p4, p5⟩ := blk_f6 bm))
    go_ret
    exact ⟨ret_int HC.out.symm, hBB⟩
  · rw [s1] at HS
    clear s1
    have HC := Lib.hid hC
    clear hC
    go_enter Tryd.func32, Tryd.ntmps32
    go_wp2_with (first | (go_at_call 27; (try rw [← HW0.out]); refine (HS.out _).mono ?_; rintro e wx ⟨rfl, rfl⟩) | (go_at_call 45; refine (HH.out _ hMM).mono ?_; rintro e w1 ⟨rfl, hC1⟩; have hZ := hZ.trans (hC1.mono hZ.size); obtain ⟨bm, hBB, hMM, hU1, hU2⟩ := HX.out _ hZ; obtain ⟨p0, p1, p2, p3, p4, p5⟩ := blk_f6 bm) | (go_at_call 47; (first | ((with_reducible refine (HL1.out _ hU1).mono ?_); rintro e w2 ⟨rfl, hC2⟩) | ((with_reducible refine (HL2.out _ hU2).mono ?_); rintro e w2 ⟨rfl, hC2⟩)); have hZ := hZ.trans (hC2.mono hZ.size); obtain ⟨bm, hBB, hMM, hU1, hU2⟩ := HX.out _ hZ; obtain ⟨p0, p1, p2, p3, p4, p5⟩ := blk_f6 bm))
    go_ret
    exact ⟨ret_int HC.out.symm, hBB⟩
  · rw [s1] at HS
    rw [s3] at HH
    clear s1 s3
    have HC := Lib.hid hC
    clear hC
    go_enter Tryd.func32, Tryd.ntmps32
    go_wp2_with (first | (go_at_call 27; (try rw [← HW0.out]); refine (HS.out _).mono ?_; rintro e wx ⟨rfl, rfl⟩) | (go_at_call 45; refine (HH.out _ hMM).mono ?_; rintro e w1 ⟨rfl, hC1⟩; have hZ := hZ.trans (hC1.mono hZ.size); obtain ⟨bm, hBB, hMM, hU1, hU2⟩ := HX.out _ hZ; obtain ⟨p0, p1, p2, p3, p4, p5⟩ := blk_f6 bm) | (go_at_call 47; (first | ((with_reducible refine (HL1.out _ hU1).mono ?_); rintro e w2 ⟨rfl, hC2⟩) | ((with_reducible refine (HL2.out _ hU2).mono ?_); rintro e w2 ⟨rfl, hC2⟩)); have hZ := hZ.trans (hC2.mono hZ.size); obtain ⟨bm, hBB, hMM, hU1, hU2⟩ := HX.out _ hZ; obtain ⟨p0, p1, p2, p3, p4, p5⟩ := blk_f6 bm))
    go_ret
    exact ⟨ret_int HC.out.symm, hBB⟩
  · rw [s1] at HS
    rw [s3] at HH
    have HC := Lib.hid hC
    clear s1 s3 hC
    by_cases n0 : n < 0
    · clear s4
      go_enter Tryd.func32, Tryd.ntmps32
      go_wp2_with (first | (go_at_call 27; (try rw [← HW0.out]); refine (HS.out _).mono ?_; rintro e wx ⟨rfl, rfl⟩) | (go_at_call 45; refine (HH.out _ hMM).mono ?_; rintro e w1 ⟨rfl, hC1⟩; have hZ := hZ.trans (hC1.mono hZ.size); obtain ⟨bm, hBB, hMM, hU1, hU2⟩ := HX.out _ hZ; obtain ⟨p0, p1, p2, p3, p4, p5⟩ := blk_f6 bm) | (go_at_call 47; (first | ((with_reducible refine (HL1.out _ hU1).mono ?_); rintro e w2 ⟨rfl, hC2⟩) | ((with_reducible refine (HL2.out _ hU2).mono ?_); rintro e w2 ⟨rfl, hC2⟩)); have hZ := hZ.trans (hC2.mono hZ.size); obtain ⟨bm, hBB, hMM, hU1, hU2⟩ := HX.out _ hZ; obtain ⟨p0, p1, p2, p3, p4, p5⟩ := blk_f6 bm))
      go_ret
      exact ⟨ret_int HC.out.symm, hBB⟩
    · have n1 : 65535 < n := by omega
      clear s4
      go_enter Tryd.func32, Tryd.ntmps32
      go_wp2_with (first | (go_at_call 27; (try rw [← HW0.out]); refine (HS.out _).mono ?_; rintro e wx ⟨rfl, rfl⟩) | (go_at_call 45; refine (HH.out _ hMM).mono ?_; rintro e w1 ⟨rfl, hC1⟩; have hZ := hZ.trans (hC1.mono hZ.size); obtain ⟨bm, hBB, hMM, hU1, hU2⟩ := HX.out _ hZ; obtain ⟨p0, p1, p2, p3, p4, p5⟩ := blk_f6 bm) | (go_at_call 47; (first | ((with_reducible refine (HL1.out _ hU1).mono ?_); rintro e w2 ⟨rfl, hC2⟩) | ((with_reducible refine (HL2.out _ hU2).mono ?_); rintro e w2 ⟨rfl, hC2⟩)); have hZ := hZ.trans (hC2.mono hZ.size); obtain ⟨bm, hBB, hMM, hU1, hU2⟩ := HX.out _ hZ; obtain ⟨p0, p1, p2, p3, p4, p5⟩ := blk_f6 bm))
      go_ret
      exact ⟨ret_int HC.out.symm, hBB⟩
  · rw [s1] at HS
    rw [s3] at HH
    rw [s5] at HL1
    clear s1 s3 s5
    have n0 : ¬ n < 0 := by omega
    have n1 : ¬ 65535 < n := by omega
    clear s4
    have HC := Lib.hid hC
    clear hC
    go_enter Tryd.func32, Tryd.ntmps32
    go_wp2_with (first | (go_at_call 27; (try rw [← HW0.out]); refine (HS.out _).mono ?_; rintro e wx ⟨rfl, rfl⟩) | (go_at_call 45; refine (HH.out _ hMM).mono ?_; rintro e w1 ⟨rfl, hC1⟩; have hZ := hZ.trans (hC1.mono hZ.size); obtain ⟨bm, hBB, hMM, hU1, hU2⟩ := HX.out _ hZ; obtain ⟨p0, p1, p2, p3, p4, p5⟩ := blk_f6 bm) | (go_at_call 47; (first | ((with_reducible refine (HL1.out _ hU1).mono ?_); rintro e w2 ⟨rfl, hC2⟩) | ((with_reducible refine (HL2.out _ hU2).mono ?_); rintro e w2 ⟨rfl, hC2⟩)); have hZ := hZ.trans (hC2.mono hZ.size); obtain ⟨bm, hBB, hMM, hU1, hU2⟩ := HX.out _ hZ; obtain ⟨p0, p1, p2, p3, p4, p5⟩ := blk_f6 bm))
    go_ret
    exact ⟨ret_int HC.out.symm, hBB⟩
  · rw [s1] at HS
    rw [s3] at HH
    rw [s5] at HL1
    rw [s6] at HL2
    clear s1 s3 s5 s6
    have n0 : ¬ n < 0 := by omega
    have n1 : ¬ 65535 < n := by omega
    clear s4
    have HC := Lib.hid hC
    clear hC
    go_enter Tryd.func32, Tryd.ntmps32
    go_wp2_with (first | (go_at_call 27; (try rw [← HW0.out]); refine (HS.out _).mono ?_; rintro e wx ⟨rfl, rfl⟩) | (go_at_call 45; refine (HH.out _ hMM).mono ?_; rintro e w1 ⟨rfl, hC1⟩; have hZ := hZ.trans (hC1.mono hZ.size); obtain ⟨bm, hBB, hMM, hU1, hU2⟩ := HX.out _ hZ; obtain ⟨p0, p1, p2, p3, p4, p5⟩ := blk_f6 bm) | (go_at_call 47; (first | ((with_reducible refine (HL1.out _ hU1).mono ?_); rintro e w2 ⟨rfl, hC2⟩) | ((with_reducible refine (HL2.out _ hU2).mono ?_); rintro e w2 ⟨rfl, hC2⟩)); have hZ := hZ.trans (hC2.mono hZ.size); obtain ⟨bm, hBB, hMM, hU1, hU2⟩ := HX.out _ hZ; obtain ⟨p0, p1, p2, p3, p4, p5⟩ := blk_f6 bm))
    go_ret
    exact ⟨ret_int HC.out.symm, hBB⟩
  all_goals
    rw [s1] at HS
    rw [s3] at HH
    rw [s5] at HL1
    rw [s6] at HL2
    clear s1 s3 s5 s6
    have n0 : ¬ n < 0 := by omega
    have n1 : ¬ 65535 < n := by omega
    clear s4
    have HC := Lib.hid hC
    clear hC
    have HG := Lib.hid s7
    clear s7
    go_enter Tryd.func32, Tryd.ntmps32
    go_wp2_with (first | (go_at_call 27; (try rw [← HW0.out]); refine (HS.out _).mono ?_; rintro e wx ⟨rfl, rfl⟩) | (go_at_call 45; refine (HH.out _ hMM).mono ?_; rintro e w1 ⟨rfl, hC1⟩; have hZ := hZ.trans (hC1.mono hZ.size); obtain ⟨bm, hBB, hMM, hU1, hU2⟩ := HX.out _ hZ; obtain ⟨p0, p1, p2, p3, p4, p5⟩ := blk_f6 bm) | (go_at_call 47; (first | ((with_reducible refine (HL1.out _ hU1).mono ?_); rintro e w2 ⟨rfl, hC2⟩) | ((with_reducible refine (HL2.out _ hU2).mono ?_); rintro e w2 ⟨rfl, hC2⟩)); have hZ := hZ.trans (hC2.mono hZ.size); obtain ⟨bm, hBB, hMM, hU1, hU2⟩ := HX.out _ hZ; obtain ⟨p0, p1, p2, p3, p4, p5⟩ := blk_f6 bm))
    go_loopw [42] (fun i wr => ∃ k : Nat, k ≤ G.length ∧ i = .int .i64 k ∧ Below w0.heap.size w0 wr ∧ Hid ((G.take k).all (fun h => h.has) = true)) (fun i _ => G.length - (intOf i).toNat)
    case atStart => exact ⟨0, Nat.zero_le _, rfl, hZ, Lib.hid rfl⟩
    case round =>
      obtain ⟨k, hk, rfl, hZ, HP⟩ := hrel
      obtain ⟨bm, hBB, hMM, hU1, hU2⟩ := HX.out _ hZ
      obtain ⟨p0, p1, p2, p3, p4, p5⟩ := blk_f6 bm
      by_cases hlt : k < G.length
      · obtain ⟨b, off, rfl, hb1, hc1⟩ := C2.out (by omega)
        have x0 : wr.cell? ⟨b, off + k * 3, none⟩ = some (sv G[k].name) := by rw [hBB.cell (p := ⟨b, off + k * 3, none⟩) hb1]; exact (hc1 k hlt).1
        have x1 : wr.cell? ⟨b, off + k * 3 + 1, none⟩ = some (sv G[k].value) := by rw [hBB.cell (p := ⟨b, off + k * 3 + 1, none⟩) hb1]; exact (hc1 k hlt).2.1
        have x2 : wr.cell? ⟨b, off + k * 3 + 2, none⟩ = some (.bool G[k].has) := by rw [hBB.cell (p := ⟨b, off + k * 3 + 2, none⟩) hb1]; exact (hc1 k hlt).2.2
        have k0 : (0 : Int) ≤ (k : Int) := by omega
        have k1 : (k : Int) < (G.length : Int) := by omega
        have HN := Lib.hid (fun (h : G[k].has = true) => (show (G.take (k + 1)).all (fun h => h.has) = true by rw [List.take_succ_eq_append_getElem hlt, List.all_append, HP.out]; simp [h]))
        have HQ := Lib.hid (fun (h : G[k].has = false) => (show (G.all fun h => h.has) = false from by
          rw [← Bool.not_eq_true, List.all_eq_true]; intro ha; have := ha _ (List.getElem_mem hlt); rw [h] at this; cases this))
        unfold sv at x0 x1
        obtain ⟨N, hN⟩ : ∃ N, N = bs G[k].name := ⟨_, rfl⟩
        obtain ⟨V, hV⟩ : ∃ V, V = bs G[k].value := ⟨_, rfl⟩
        rw [← hN] at x0
        rw [← hV] at x1
        obtain ⟨h, hh⟩ : ∃ h, h = G[k].has := ⟨_, rfl⟩
        rw [← hh] at x2 HN HQ
        clear hc1 hb1 hN hV hh HP
        cases h
        · have hq := HQ.out rfl
          rw [HG.out] at hq
          first
            | (exact absurd hq (by decide))
            | (clear hq
               go_wp2
               go_ret
               exact ⟨ret_int HC.out.symm, by first | exact hBB | exact hBB.alloc (by have := hBB.size; omega) _⟩)
        · have HN' := Lib.hid (HN.out rfl)
          go_wp2
          go_roundw
          case rel => exact ⟨k + 1, by omega, by go_num, by first | exact hZ | exact hZ.alloc hZ.size _, HN'⟩
          case measure => simp [intOf]; omega
      · have hq := HP.out
        rw [List.take_of_length_le (by omega), HG.out] at hq
        first
          | (exact absurd hq (by decide))
          | (clear hq
             go_wp2
             go_ret
             exact ⟨ret_int HC.out.symm, hBB⟩)

end Go.Proofs.YtbljmjbialinkaaDoor
