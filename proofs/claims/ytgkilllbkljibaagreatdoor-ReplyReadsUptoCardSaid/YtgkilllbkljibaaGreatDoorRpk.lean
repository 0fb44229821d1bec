/- Contracts of Go functions, and plain laws. No condition but those told. -/
import Derived.Test.YtgkilllbkljibaaGreatDoorR16
set_option linter.unusedSimpArgs false
set_option linter.unusedVariables false
set_option maxRecDepth 100000
namespace Go.Proofs.YtgkilllbkljibaaGreatDoor
open Go.RowKit Go.Sort
theorem startRk_c (s : ByteArray) (hs : s.size ≤ 4294967280) (ho : (cutb 32 (us s)).2.2 = true ∧ (cutb 32 (cutb 32 (us s)).2.1).2.2 = true) (hv : same (cutb 32 (us s)).1 ver = true) (w : World) :
  Calls Tryz.prog 54 #[.string s] w fun e w' => StartPost (startS (us s)) w e w' := by
 have l1 := cutb_le 32 (us s)
 have l2 := cutb_le 32 (cutb 32 (us s)).2.1
 rw [length_us] at l1
 have H1 := fun wx => cutR_c s (by omega) 32 wx
 have H2 := fun wx => cutR_c (bs (cutb 32 (us s)).2.1) (by rw [size_bs]; omega) 32 wx
 rw [us_bs] at H2
 have H3 := fun wx => sameR_c (bs (cutb 32 (us s)).1) ⟨#[83, 73, 80, 47, 50, 46, 48]⟩ (by rw [size_bs]; omega) (by decide) wx
 rw [us_bs, show us ⟨#[83, 73, 80, 47, 50, 46, 48]⟩ = ver from rfl] at H3
 rw [ho.1] at H1
 rw [ho.2] at H2
 rw [hv] at H3
 have H4 := fun wx => numberR_c (bs (cutb 32 (cutb 32 (us s)).2.1).1) (by rw [size_bs]; omega) 999 (by decide) (by decide) wx
 rw [us_bs] at H4
 refine (startR_res s _ _ _ _ _ _ (by rw [size_bs]; omega) w H1 H2 H3 H4).mono ?_
 rintro e w' ⟨v, rfl, hB, rfl⟩
 refine ⟨_, _, rfl, hB, ⟨_, _, _, _, _, rfl⟩, ?_⟩
 obtain ⟨n1, n2⟩ := number_999 (cutb 32 (cutb 32 (us s)).2.1).1 (cutb 32 (cutb 32 (us s)).2.1).2.1
 rw [startS_res _ hv, ho.1, ho.2]
 have hcc : (true && true && ((number (cutb 32 (cutb 32 (us s)).2.1).1 699).2 == 0) && decide ((bs (cutb 32 (cutb 32 (us s)).2.1).1).size = 3) && firstS ⟨[], [], (number (cutb 32 (cutb 32 (us s)).2.1).1 699).1, us (bs (cutb 32 (cutb 32 (us s)).2.1).2.1), [], []⟩) =
   (((number (cutb 32 (cutb 32 (us s)).2.1).1 999).2 == 0) && decide ((bs (cutb 32 (cutb 32 (us s)).2.1).1).size = 3) && firstS ⟨[], [], (number (cutb 32 (cutb 32 (us s)).2.1).1 999).1, us (bs (cutb 32 (cutb 32 (us s)).2.1).2.1), [], []⟩) := by
  rw [us_bs, Bool.and_assoc _ _ (firstS _), Bool.and_comm (decide _) (firstS _), ← Bool.and_assoc _ (firstS _) (decide _), Bool.and_assoc _ (decide _) (firstS ⟨[], [], (number (cutb 32 (cutb 32 (us s)).2.1).1 999).1, _, [], []⟩), Bool.and_comm (decide _) (firstS ⟨[], [], (number (cutb 32 (cutb 32 (us s)).2.1).1 999).1, _, [], []⟩), ← Bool.and_assoc _ (firstS ⟨[], [], (number (cutb 32 (cutb 32 (us s)).2.1).1 999).1, _, [], []⟩) (decide _), n1]
  simp
 rw [hcc]
 split
 ·rename_i hh heq
  split at heq
  ·cases heq
  ·rename_i hc; simpa using hc
 ·rename_i m heq
  split at heq
  ·rename_i hc
   injection heq with heq
   subst heq
   refine ⟨hc, ?_, rfl, rfl⟩
   have hn : (number (cutb 32 (cutb 32 (us s)).2.1).1 999).1 = (number (cutb 32 (cutb 32 (us s)).2.1).1 699).1 := by
    refine n2 ?_
    rw [← n1]
    rw [us_bs] at hc
    simp only [Bool.and_eq_true] at hc ⊢
    exact ⟨hc.1.1, hc.2⟩
   rw [hn]; rfl
  ·cases heq
set_option maxRecDepth 100000 in
set_option maxHeartbeats 12800000 in
theorem parseRk_c (s : ByteArray) (hs : s.size ≤ 9223372036854775807) (hK : ∀ t ts rest, headGo [] [] (us s) = some (t :: ts, rest) → ((cutb 32 t).2.2 = true ∧ (cutb 32 (cutb 32 t).2.1).2.2 = true) ∧ same (cutb 32 t).1 ver = true) (w : World) :
  Calls Tryz.prog 16 #[.string s] w fun e w' => ParsePost (parseS (us s)) w e w' := by
 have HK := κ hK
 clear hK
 have b0 : Blk ((w.alloc (.cells #[.string ⟨#[]⟩, .string ⟨#[]⟩, .int .i64 0, .string ⟨#[]⟩, .slice none 0 0, .string ⟨#[]⟩] 24)).alloc (.cells #[.string ⟨#[]⟩, .string ⟨#[]⟩, .int .i64 0, .string ⟨#[]⟩, .slice none 0 0, .string ⟨#[]⟩] 24)) w.heap.size 24 #[.string ⟨#[]⟩, .string ⟨#[]⟩, .int .i64 0, .string ⟨#[]⟩, .slice none 0 0, .string ⟨#[]⟩] := (Blk.new _ _ _).alloc _
 have b1 : Blk ((w.alloc (.cells #[.string ⟨#[]⟩, .string ⟨#[]⟩, .int .i64 0, .string ⟨#[]⟩, .slice none 0 0, .string ⟨#[]⟩] 24)).alloc (.cells #[.string ⟨#[]⟩, .string ⟨#[]⟩, .int .i64 0, .string ⟨#[]⟩, .slice none 0 0, .string ⟨#[]⟩] 24)) (w.heap.size + 1) 24 #[.string ⟨#[]⟩, .string ⟨#[]⟩, .int .i64 0, .string ⟨#[]⟩, .slice none 0 0, .string ⟨#[]⟩] := by have := Blk.new (w.alloc (.cells #[.string ⟨#[]⟩, .string ⟨#[]⟩, .int .i64 0, .string ⟨#[]⟩, .slice none 0 0, .string ⟨#[]⟩] 24)) 24 #[.string ⟨#[]⟩, .string ⟨#[]⟩, .int .i64 0, .string ⟨#[]⟩, .slice none 0 0, .string ⟨#[]⟩]; rw [World.size_alloc] at this; exact this
 have hB0 : Below w.heap.size w ((w.alloc (.cells #[.string ⟨#[]⟩, .string ⟨#[]⟩, .int .i64 0, .string ⟨#[]⟩, .slice none 0 0, .string ⟨#[]⟩] 24)).alloc (.cells #[.string ⟨#[]⟩, .string ⟨#[]⟩, .int .i64 0, .string ⟨#[]⟩, .slice none 0 0, .string ⟨#[]⟩] 24)) := ((Below.refl _ _).alloc (ρ _) _).alloc (by simp) _
 obtain ⟨w0, hw0⟩ : ∃ w0, w0 = (w.alloc (.cells #[.string ⟨#[]⟩, .string ⟨#[]⟩, .int .i64 0, .string ⟨#[]⟩, .slice none 0 0, .string ⟨#[]⟩] 24)).alloc (.cells #[.string ⟨#[]⟩, .string ⟨#[]⟩, .int .i64 0, .string ⟨#[]⟩, .slice none 0 0, .string ⟨#[]⟩] 24) := ⟨_, rfl⟩
 have HZ0 := κ (show w.heap.size + 2 = w0.heap.size by rw [hw0]; simp)
 have HW0 := κ hw0.symm
 rw [← hw0] at b0 b1 hB0
 clear hw0
 have HX := κ (fun (wx : World) (h : Below w0.heap.size w0 wx) => (⟨b0.call h, b1.call h, hB0.trans (h.mono hB0.size)⟩ : Blk wx w.heap.size 24 #[.string ⟨#[]⟩, .string ⟨#[]⟩, .int .i64 0, .string ⟨#[]⟩, .slice none 0 0, .string ⟨#[]⟩] ∧ Blk wx (w.heap.size + 1) 24 #[.string ⟨#[]⟩, .string ⟨#[]⟩, .int .i64 0, .string ⟨#[]⟩, .slice none 0 0, .string ⟨#[]⟩] ∧ Below w.heap.size w wx))
 by_cases hl : 4096 < s.size
 ·have HP := κ (parseS_long (us s) (by rw [length_us]; exact hl))
  clear b0 b1 hB0
  go_enter Tryz.func16, Tryz.ntmps16
  go_wp2
  refine bodyPost_ret (v := .tuple #[.agg #[.string ⟨#[]⟩, .string ⟨#[]⟩, .int .i64 0, .string ⟨#[]⟩, .slice none 0 0, .string ⟨#[]⟩], .int .i64 2]) (by simp [results, Tryz.results16, go_sem]) rfl ?_
  rw [HP.out]
  exact post_bad 2 (((Below.refl _ _).alloc (ρ _) _).alloc (by simp) _)
 ·have hl' : ¬ 4096 < (us s).length := by rw [length_us]; exact hl
  have HL := κ (headR_c s (by omega) w0)
  clear b0 b1 hB0
  unfold HeadPost at HL
  cases hh : headGo [] [] (us s) with
  | none =>
   have HP := κ (parseS_none _ hl' hh)
   rw [hh] at HL
   clear hh
   go_enter Tryz.func16, Tryz.ntmps16
   go_wp2_with (go_at_call 53; rw [HW0.out]; refine HL.out.mono ?_; rintro e w1 ⟨v, n, rfl, hC, rfl, rfl⟩; obtain ⟨b2, bn, hBS⟩ := HX.out _ hC; obtain ⟨_, _, _, _, _, _, f0, f1, f2, f3, f4, f5, z2⟩ := b2.g6; obtain ⟨n0, n1, n2, n3, n4, n5, _⟩ := bn.g6)
   refine any_world (R := bodyPost _ _ _ _ _) (fun w' => Blk w' w.heap.size 24 #[.string ⟨#[]⟩, .string ⟨#[]⟩, .int .i64 0, .string ⟨#[]⟩, .slice none 0 0, .string ⟨#[]⟩] ∧ Below w.heap.size w w') ⟨b2.put6, below_put6 hBS (ρ _)⟩ ?_
   rintro wF ⟨bF, hBF⟩
   obtain ⟨r0, r1, r2, r3, r4, r5, _⟩ := bF.g6
   refine bodyPost_ret (v := .tuple #[.agg #[.string ⟨#[]⟩, .string ⟨#[]⟩, .int .i64 0, .string ⟨#[]⟩, .slice none 0 0, .string ⟨#[]⟩], .int .i64 63]) (by simp [results, Tryz.results16, go_sem, r0, r1, r2, r3, r4, r5]) rfl ?_
   rw [HP.out]
   exact post_bad 63 hBF
  | some LR =>
   obtain ⟨L, rest⟩ := LR
   have hp := parseS_some _ hl' L rest hh
   have HSK := κ (fun t ts (h : L = t :: ts) => HK.out t ts rest (by rw [hh, h]))
   rw [hh] at HL
   clear hh
   cases L with
   | nil =>
    have HP := κ (show parseS (us s) = (mg0, 63) from hp)
    clear hp
    go_enter Tryz.func16, Tryz.ntmps16
    go_wp2_with (go_at_call 53; rw [HW0.out]; refine HL.out.mono ?_; rintro e w1 ⟨v, n, rfl, hC, hR, k, rfl, hk, hrest, hbd⟩; obtain ⟨b2, bn, hBS⟩ := HX.out _ hC; obtain ⟨_, _, _, _, _, _, f0, f1, f2, f3, f4, f5, z2⟩ := b2.g6; obtain ⟨n0, n1, n2, n3, n4, n5, _⟩ := bn.g6; obtain ⟨ao, cap, rfl⟩ : ∃ ao cap, v = .slice ao 0 cap := by rcases hR.cases with ⟨h, _⟩ | ⟨b, off, cap, h, _⟩ <;> first | exact h | exact ⟨_, _, h⟩)
    refine any_world (R := bodyPost _ _ _ _ _) (fun w' => Blk w' w.heap.size 24 #[.string ⟨#[]⟩, .string ⟨#[]⟩, .int .i64 0, .string ⟨#[]⟩, .slice none 0 0, .string ⟨#[]⟩] ∧ Below w.heap.size w w') ⟨b2.put6, below_put6 hBS (ρ _)⟩ ?_
    rintro wF ⟨bF, hBF⟩
    obtain ⟨r0, r1, r2, r3, r4, r5, _⟩ := bF.g6
    refine bodyPost_ret (v := .tuple #[.agg #[.string ⟨#[]⟩, .string ⟨#[]⟩, .int .i64 0, .string ⟨#[]⟩, .slice none 0 0, .string ⟨#[]⟩], .int .i64 63]) (by simp [results, Tryz.results16, go_sem, r0, r1, r2, r3, r4, r5]) rfl ?_
    rw [HP.out]
    exact post_bad 63 hBF
   | cons t ts =>
    have hnil : (t :: ts : List (List UInt8)) = [] → False := fun h => by cases h
    have lz1 : (((ts.length : Int) + 1) == 0) = false := by rw [beq_eq_false_iff_ne]; omega
    have lz2 : (0 : Int) < (ts.length : Int) + 1 := by omega
    have lz3 : (1 : Int) ≤ (ts.length : Int) + 1 := by omega
    cases hst : startS t with
    | none =>
     have HP := κ (hp.trans (parse2_none t ts rest hst))
     clear hp
     have HS := κ (fun (ht : t.length ≤ 4096) wx => by have := startRk_c (bs t) (by rw [size_bs]; omega) (by rw [us_bs]; exact (HSK.out t ts rfl).1) (by rw [us_bs]; exact (HSK.out t ts rfl).2) wx; rw [us_bs, hst] at this; exact this)
     unfold StartPost at HS
     clear hst
     go_enter Tryz.func16, Tryz.ntmps16
     go_wp2_with (first | (go_at_call 53; rw [HW0.out]; refine HL.out.mono ?_; rintro e w1 ⟨v, n, rfl, hC, hR, k, rfl, hk, hrest, hbd⟩; rcases hR.cases with ⟨_, h0⟩ | ⟨bl, off, cap, rfl, hcap, hmx, hlt, hcl⟩; (focus exact (hnil h0).elim); have x0 : w1.cell? ⟨bl, off, none⟩ = some (.string (bs t)) := hcl 0 (by simp); have htl := hbd t (List.mem_cons_self ..); rw [length_us] at hk; clear hcl hR hbd hrest) | (go_at_call 54; refine (HS.out (by omega) _).mono ?_; rintro e w2 ⟨v2, ok, rfl, hC2, ⟨M, TG, X, R, B, rfl⟩, rfl⟩; obtain ⟨b2, bn, hBS⟩ := HX.out _ (hC.trans (hC2.mono hC.size)); obtain ⟨_, _, _, _, _, _, f0, f1, f2, f3, f4, f5, z2⟩ := b2.g6; obtain ⟨n0, n1, n2, n3, n4, n5, _⟩ := bn.g6))
     refine any_world (R := bodyPost _ _ _ _ _) (fun w' => Blk w' w.heap.size 24 #[.string ⟨#[]⟩, .string ⟨#[]⟩, .int .i64 0, .string ⟨#[]⟩, .slice none 0 0, .string ⟨#[]⟩] ∧ Below w.heap.size w w') ⟨b2.put6.alloc _, (below_put6 hBS (ρ _)).alloc (below_put6 hBS (ρ _)).size _⟩ ?_
     rintro wF ⟨bF, hBF⟩
     obtain ⟨r0, r1, r2, r3, r4, r5, _⟩ := bF.g6
     refine bodyPost_ret (v := .tuple #[.agg #[.string ⟨#[]⟩, .string ⟨#[]⟩, .int .i64 0, .string ⟨#[]⟩, .slice none 0 0, .string ⟨#[]⟩], .int .i64 60]) (by simp [results, Tryz.results16, go_sem, r0, r1, r2, r3, r4, r5]) rfl ?_
     rw [HP.out]
     exact post_bad 60 hBF
    | some m =>
     have HP := κ (hp.trans (parse2_some t ts rest m hst))
     clear hp
     have hso := startS_ok t m hst
     have HS := κ (fun (ht : t.length ≤ 4096) wx => show Calls Tryz.prog 54 #[.string (bs t)] wx fun e w' => e = .returned (.tuple #[.agg #[.string (bs m.method), .string (bs m.target), .int .i64 m.status, .string (bs m.reason), .slice none 0 0, .string ⟨#[]⟩], .bool true]) ∧ Below wx.heap.size wx w' from by
      have := startRk_c (bs t) (by rw [size_bs]; omega) (by rw [us_bs]; exact (HSK.out t ts rfl).1) (by rw [us_bs]; exact (HSK.out t ts rfl).2) wx
      rw [us_bs, hst] at this
      refine this.mono ?_
      rintro e w' ⟨v2, ok, rfl, hC2, _, rfl, rfl, _, hmb⟩
      refine ⟨?_, hC2⟩
      unfold mgv sv
      rw [hmb]; rfl)
     clear hst
     obtain ⟨M, hM0⟩ : ∃ M, M = bs m.method := ⟨_, rfl⟩
     obtain ⟨TG, hT0⟩ : ∃ M, M = bs m.target := ⟨_, rfl⟩
     obtain ⟨RS, hR0⟩ : ∃ M, M = bs m.reason := ⟨_, rfl⟩
     obtain ⟨X, hX0⟩ : ∃ X, X = m.status := ⟨_, rfl⟩
     rw [← hM0, ← hT0, ← hR0, ← hX0] at HS
     have HMV := κ (fun (u : Value) (H : List Hdr) (b : List UInt8) => show mgv { m with hdrs := H, body := b } u = .agg #[.string M, .string TG, .int .i64 X, .string RS, u, .string (bs b)] by rw [hM0, hT0, hR0, hX0]; rfl)
     clear hM0 hT0 hR0 hX0 hso
     go_enter Tryz.func16, Tryz.ntmps16
     go_wp2_with (first | (go_at_call 53; rw [HW0.out]; refine HL.out.mono ?_; rintro e w1 ⟨v, n, rfl, hC, hR, k, rfl, hk, hrest, hbd⟩; rcases hR.cases with ⟨_, h0⟩ | ⟨bl, off, cap, rfl, hcap, hmx, hlt, hcl⟩; (focus exact (hnil h0).elim); have x0 : w1.cell? ⟨bl, off, none⟩ = some (.string (bs t)) := hcl 0 (by simp); have htz : ts.length < 9223372036854775807 := (by have := hcap; simp only [List.length_cons] at this; unfold maxLen at hmx; omega); have htl := hbd t (List.mem_cons_self ..); rw [length_us] at hk; have hk' : (k : Int) ≤ (s.size : Int) := (by omega); have HCL := κ hcl; have HBD := κ hbd; have HRS := κ hrest; clear hcl hR hbd hrest) | (go_at_call 54; refine (HS.out (by omega) _).mono ?_; rintro e w2 ⟨rfl, hC2⟩))
     have bm : Blk (w2.alloc (.cells #[.string M, .string TG, .int .i64 X, .string RS, .slice none 0 0, .string ⟨#[]⟩] 24)) w2.heap.size 24 #[.string M, .string TG, .int .i64 X, .string RS, .slice none 0 0, .string ⟨#[]⟩] := Blk.new _ _ _
     obtain ⟨w3, hw3⟩ : ∃ w3, w3 = w2.alloc (.cells #[.string M, .string TG, .int .i64 X, .string RS, .slice none 0 0, .string ⟨#[]⟩] 24) := ⟨_, rfl⟩
     have hB3 : Below w2.heap.size w2 w3 := by rw [hw3]; exact (Below.refl _ _).alloc (ρ _) _
     have hz3 : w3.heap.size = w2.heap.size + 1 := by rw [hw3]; simp
     rw [← hw3] at bm
     simp only [← hw3]
     clear hw3
     have hCC := hC.trans (hC2.mono hC.size)
     have HX2 := κ (fun (wx : World) (h : Below w2.heap.size w2 wx) => HX.out wx (hCC.trans (h.mono hCC.size)))
     have hG2 : w.heap.size + 2 ≤ w2.heap.size := by have := hCC.size; rw [HZ0.out]; exact this
     have HCR := κ (fun (wx : World) (h : Below w2.heap.size w2 wx) (q i : Nat) (h1 : i + 1 ≤ q) (h2 : q ≤ i + 1) (hi : i < ts.length) => (show wx.cell? ⟨bl, off + q, none⟩ = some (.string (bs ts[i])) from by
      have hb := hC2.trans (h.mono hC2.size)
      rw [hb.cell (p := ⟨bl, off + q, none⟩) hlt, show off + q = off + (i + 1) by omega]
      exact HCL.out (i + 1) (by simp; omega)))
     go_loopw [11, 9, 10] (fun j zz tt wr => ∃ (q i : Nat) (H : List Hdr) (z : Int) (u : Value) (b : Bool), i + 1 ≤ q ∧ q ≤ i + 1 ∧ i ≤ ts.length ∧ j = .int .i64 q ∧ zz = .int .i64 (sizeR z ((s.size : Int) - (k : Int))) ∧ tt = .bool b ∧ b = decide (0 ≤ z) ∧ Below w2.heap.size w2 wr ∧ w2.heap.size + 1 ≤ wr.heap.size ∧ Blk wr w2.heap.size 24 #[.string M, .string TG, .int .i64 X, .string RS, u, .string ⟨#[]⟩] ∧ Hdrs wr (w2.heap.size + 1) u H ∧ H.length ≤ 64 ∧ -1 ≤ z ∧ z ≤ 4096 ∧ linesS [] (-1) ts = linesS H z (ts.drop i)) (fun j _ _ _ => ts.length + 1 - (intOf j).toNat)
     case atStart => exact ⟨1, 0, [], -1, .slice none 0 0, false, ρ _, ρ _, Nat.zero_le _, rfl, by rw [sizeR_no (by decide)], rfl, rfl, hB3, by omega, bm, Hdrs.nil _ _, Nat.zero_le _, by decide, by decide, rfl⟩
     case round =>
      obtain ⟨q, i, H, z, u, b, hq1, hq2, hi, rfl, rfl, rfl, hbz, hBr, hwz, bmr, hown, hH, hz0, hz1, hpp⟩ := hrel
      have HPP := κ hpp
      have HBZ := κ hbz
      clear hpp hbz
      obtain ⟨b2, bn, hBS⟩ := HX2.out _ hBr; obtain ⟨_, _, _, _, _, _, f0, f1, f2, f3, f4, f5, z2⟩ := b2.g6; obtain ⟨n0, n1, n2, n3, n4, n5, _⟩ := bn.g6
      by_cases hil : i < ts.length
      ·have x1 := HCR.out wr hBr q i hq1 hq2 hil
       have q0 : (0 : Int) ≤ (q : Int) := by omega
       have q1 : (q : Int) < (ts.length : Int) + 1 := by omega
       have htm : ts[i].length ≤ 4096 := by have := HBD.out ts[i] (List.mem_cons_of_mem _ (List.getElem_mem _)); omega
       have hLN := κ (fun H' z' hc => lines_next ts H H' z z' i hil HPP.out hc)
       have hLB := κ (fun c h0 hc => lines_bad ts H z i hil m rest c h0 HPP.out hc)
       have hls : lineS H z ts[i] = lineOf H z (longS (trimR (cutb 58 ts[i]).1)) (trim (cutb 58 ts[i]).2.1) (cutb 58 ts[i]).2.2 := rfl
       have l1 := cutb_le 58 ts[i]
       have l2 := trim_length (cutb 58 ts[i]).2.1
       have l3 : (trimR (cutb 58 ts[i]).1).length ≤ (cutb 58 ts[i]).1.length := by unfold trimR; rw [List.length_reverse]; exact Nat.le_trans (List.dropWhile_suffix _).length_le (by rw [List.length_reverse]; exact ρ _)
       have l4 := longS_le (trimR (cutb 58 ts[i]).1)
       have HCut := κ (fun wx => cutR_c (bs ts[i]) (by rw [size_bs]; omega) 58 wx)
       have HTr := κ (fun wx => behind_c (bs (cutb 58 ts[i]).1) (by rw [size_bs]; omega) wx)
       have HLo := κ (fun wx => longR_c (bs (trimR (cutb 58 ts[i]).1)) (by rw [size_bs]; omega) wx)
       have HTm := κ (fun wx => trimR_c (bs (cutb 58 ts[i]).2.1) (by rw [size_bs]; omega) wx)
       have HTk := κ (fun wx => tokenR_c (bs (longS (trimR (cutb 58 ts[i]).1))) (by rw [size_bs]; omega) wx)
       have HVs := κ (fun wx => visR_c (bs (trim (cutb 58 ts[i]).2.1)) (by rw [size_bs]; omega) wx)
       have HLn := κ (fun wx => lengthR_c (bs (longS (trimR (cutb 58 ts[i]).1))) (by rw [size_bs]; omega) wx)
       have HNm := κ (fun wx => numberR_c (bs (trim (cutb 58 ts[i]).2.1)) (by rw [size_bs]; omega) 4096 (by decide) (by decide) wx)
       rw [us_bs] at HCut HTr HLo HTm HTk HVs HLn HNm
       rw [show (((58 : UInt8).toNat : Nat) : Int) = 58 from rfl] at HCut
       obtain ⟨nm, hnm⟩ : ∃ x, x = longS (trimR (cutb 58 ts[i]).1) := ⟨_, rfl⟩
       obtain ⟨vv, hvv⟩ : ∃ x, x = trim (cutb 58 ts[i]).2.1 := ⟨_, rfl⟩
       rw [← hnm] at HLo HTk HLn hls
       rw [← hvv] at HTm HVs HNm hls
       rw [hls] at hLN hLB
       obtain ⟨is, his⟩ : ∃ x, x = (cutb 58 ts[i]).2.2 := ⟨_, rfl⟩
       rw [← his] at HCut hLN hLB
       obtain ⟨CA, hCA⟩ : ∃ x, x = bs (cutb 58 ts[i]).1 := ⟨_, rfl⟩
       obtain ⟨CB, hCB⟩ : ∃ x, x = bs (cutb 58 ts[i]).2.1 := ⟨_, rfl⟩
       obtain ⟨TR, hTR⟩ : ∃ x, x = bs (trimR (cutb 58 ts[i]).1) := ⟨_, rfl⟩
       rw [← hCA] at HCut HTr
       rw [← hCB] at HCut HTm
       rw [← hTR] at HTr HLo
       have hn61 := line_61 H z nm vv is
       have hnok := line_ok H z nm vv
       have hnb := number_bd vv 4096 (by decide)
       have uN := us_bs nm
       have uV := us_bs vv
       obtain ⟨N, hN⟩ : ∃ x, x = bs nm := ⟨_, rfl⟩
       obtain ⟨V, hV⟩ : ∃ x, x = bs vv := ⟨_, rfl⟩
       rw [← hN] at HLo HTk HLn uN
       rw [← hV] at HTm HVs HNm uV
       have HUN := κ uN
       have HUV := κ uV
       clear hls l1 l2 l3 l4 hnm hvv his hCA hCB hTR hN hV htm uN uV
       cases htk : token nm <;> cases hvs : visS vv <;> cases is
       case true.true.true =>
        have hk2 := hnok htk hvs
        rw [htk] at HTk
        rw [hvs] at HVs
        clear htk hvs hn61 hnok
        cases hln : isLen nm
        ·rw [hln] at HLn
         rw [if_pos hln] at hk2
         clear hnb hln
         by_cases h64 : 64 ≤ H.length
         ·have HP := κ (HP.out.trans (hLB.out 4 (by decide) (by rw [hk2, if_pos h64])))
          have t64 : ((64 : Int) ≤ (H.length : Int)) := by omega
          clear hk2
          go_wp2_with (first | (go_at_call 55; refine (HCut.out _).mono ?_; rintro e w4 ⟨rfl, hD⟩; have bmr := bmr.call hD.below; have hown := hown.below hD.below (ρ _); have hBr := hBr.trans hD.below) | (go_at_call 57; refine (HTr.out _).mono ?_; rintro e wx ⟨rfl, rfl⟩) | (go_at_call 56; refine (HLo.out _).mono ?_; rintro e w6 ⟨rfl, hC6⟩; have bmr := bmr.call hC6; have hown := hown.below hC6 (ρ _); have hBr := hBr.trans (hC6.mono hBr.size); obtain ⟨b2, bn, hBS⟩ := HX2.out _ hBr; obtain ⟨_, _, _, _, _, _, f0, f1, f2, f3, f4, f5, z2⟩ := b2.g6; obtain ⟨n0, n1, n2, n3, n4, n5, _⟩ := bn.g6; obtain ⟨p0, p1, p2, p3, p4, p5, g0, g1, g2, g3, g4, g5, z4⟩ := bmr.g6) | (go_at_call 58; refine (HTm.out _).mono ?_; rintro e wx ⟨rfl, rfl⟩) | (go_at_call 59; refine (HTk.out _).mono ?_; rintro e wx ⟨rfl, rfl⟩) | (go_at_call 60; refine (HVs.out _).mono ?_; rintro e wx ⟨rfl, rfl⟩) | (go_at_call 61; refine (HLn.out _).mono ?_; rintro e w7 ⟨rfl, hC7⟩; have bmr := bmr.call hC7; have hown := hown.below hC7 (ρ _); have hBr := hBr.trans (hC7.mono hBr.size); obtain ⟨b2, bn, hBS⟩ := HX2.out _ hBr; obtain ⟨_, _, _, _, _, _, f0, f1, f2, f3, f4, f5, z2⟩ := b2.g6; obtain ⟨n0, n1, n2, n3, n4, n5, _⟩ := bn.g6; obtain ⟨p0, p1, p2, p3, p4, p5, g0, g1, g2, g3, g4, g5, z4⟩ := bmr.g6; have hlen := hdrs_len hown) | (go_at_call 62; refine (HNm.out _).mono ?_; rintro e wx ⟨rfl, rfl⟩))
          refine any_world (R := bodyPost _ _ _ _ _) (fun w' => Blk w' w.heap.size 24 #[.string ⟨#[]⟩, .string ⟨#[]⟩, .int .i64 0, .string ⟨#[]⟩, .slice none 0 0, .string ⟨#[]⟩] ∧ Below w.heap.size w w') ⟨b2.put6, below_put6 hBS (ρ _)⟩ ?_
          rintro wF ⟨bF, hBF⟩
          obtain ⟨r0, r1, r2, r3, r4, r5, _⟩ := bF.g6
          refine bodyPost_ret (v := .tuple #[.agg #[.string ⟨#[]⟩, .string ⟨#[]⟩, .int .i64 0, .string ⟨#[]⟩, .slice none 0 0, .string ⟨#[]⟩], .int .i64 4]) (by simp [results, Tryz.results16, go_sem, r0, r1, r2, r3, r4, r5]) rfl ?_
          rw [HP.out]
          exact post_bad 4 hBF
         ·have HN2 := κ (hLN.out (H ++ [⟨nm, vv⟩]) z (by rw [hk2, if_neg h64]))
          have t64 : ¬ ((64 : Int) ≤ (H.length : Int)) := by omega
          clear hk2
          go_wp2_with (first | (go_at_call 55; refine (HCut.out _).mono ?_; rintro e w4 ⟨rfl, hD⟩; have bmr := bmr.call hD.below; have hown := hown.below hD.below (ρ _); have hBr := hBr.trans hD.below) | (go_at_call 57; refine (HTr.out _).mono ?_; rintro e wx ⟨rfl, rfl⟩) | (go_at_call 56; refine (HLo.out _).mono ?_; rintro e w6 ⟨rfl, hC6⟩; have bmr := bmr.call hC6; have hown := hown.below hC6 (ρ _); have hBr := hBr.trans (hC6.mono hBr.size); obtain ⟨b2, bn, hBS⟩ := HX2.out _ hBr; obtain ⟨_, _, _, _, _, _, f0, f1, f2, f3, f4, f5, z2⟩ := b2.g6; obtain ⟨n0, n1, n2, n3, n4, n5, _⟩ := bn.g6; obtain ⟨p0, p1, p2, p3, p4, p5, g0, g1, g2, g3, g4, g5, z4⟩ := bmr.g6) | (go_at_call 58; refine (HTm.out _).mono ?_; rintro e wx ⟨rfl, rfl⟩) | (go_at_call 59; refine (HTk.out _).mono ?_; rintro e wx ⟨rfl, rfl⟩) | (go_at_call 60; refine (HVs.out _).mono ?_; rintro e wx ⟨rfl, rfl⟩) | (go_at_call 61; refine (HLn.out _).mono ?_; rintro e w7 ⟨rfl, hC7⟩; have bmr := bmr.call hC7; have hown := hown.below hC7 (ρ _); have hBr := hBr.trans (hC7.mono hBr.size); obtain ⟨b2, bn, hBS⟩ := HX2.out _ hBr; obtain ⟨_, _, _, _, _, _, f0, f1, f2, f3, f4, f5, z2⟩ := b2.g6; obtain ⟨n0, n1, n2, n3, n4, n5, _⟩ := bn.g6; obtain ⟨p0, p1, p2, p3, p4, p5, g0, g1, g2, g3, g4, g5, z4⟩ := bmr.g6; have hlen := hdrs_len hown) | (go_at_call 62; refine (HNm.out _).mono ?_; rintro e wx ⟨rfl, rfl⟩) | (at_builtin; refine wpList_appH1 ⟨nm, vv⟩ HUN.out HUV.out rfl rfl Tryz.underlying22 infoH rfl rfl hown (Below.refl _ _) bmr.lt ?_ ?_; (focus omega); intro v1 w8 ho1 hb1; obtain ⟨ao1, cp1, rfl⟩ : ∃ ao cp, v1 = .slice ao (H.length + 1) cp := (by obtain ⟨ao1, cp1, hv1, _⟩ := ho1.len; exact ⟨ao1, cp1, by rw [hv1]; simp⟩); have bm8 := bmr.below hb1 (Nat.lt_succ_self _); obtain ⟨q0', q1', q2', q3', q4', q5', h0, h1, h2, h3, h4, h5, z5⟩ := bm8.g6))
          go_roundw
          case rel =>
           have hB9 := (hBr.trans (hb1.mono (Nat.le_succ _))).setCell (p := ⟨w2.heap.size, 4, none⟩) (ρ _) (.slice ao1 (H.length + 1) cp1)
           exact ⟨q + 1, i + 1, _, z, _, b, by omega, by omega, by omega, by go_num, rfl, rfl, HBZ.out, hB9, by rw [World.size_setCell]; exact z5, bm8.set_ 4 _, ho1.set (Nat.lt_succ_self _) _, by rw [List.length_append]; simp; omega, hz0, hz1, HN2.out⟩
          case measure => simp [intOf]; omega
        ·rw [hln] at HLn
         rw [if_neg (by rw [hln]; decide)] at hk2
         clear hln
         obtain ⟨nn, hnn⟩ : ∃ x, x = (number vv 4096).1 := ⟨_, rfl⟩
         obtain ⟨ne, hne⟩ : ∃ x, x = (number vv 4096).2 := ⟨_, rfl⟩
         rw [← hnn] at HNm hk2 hnb
         rw [← hne] at HNm hk2 hnb
         clear hnn hne
         by_cases hn0 : ne = 0
         ·subst hn0
          obtain ⟨nb0, nb1⟩ := hnb rfl
          clear hnb
          by_cases hzz : 0 ≤ z
          ·have HP := κ (HP.out.trans (hLB.out 62 (by decide) (by rw [hk2, if_pos (.inr hzz)])))
           obtain rfl : b = true := by rw [HBZ.out]; exact decide_eq_true hzz
           clear hk2
           go_wp2_with (first | (go_at_call 55; refine (HCut.out _).mono ?_; rintro e w4 ⟨rfl, hD⟩; have bmr := bmr.call hD.below; have hown := hown.below hD.below (ρ _); have hBr := hBr.trans hD.below) | (go_at_call 57; refine (HTr.out _).mono ?_; rintro e wx ⟨rfl, rfl⟩) | (go_at_call 56; refine (HLo.out _).mono ?_; rintro e w6 ⟨rfl, hC6⟩; have bmr := bmr.call hC6; have hown := hown.below hC6 (ρ _); have hBr := hBr.trans (hC6.mono hBr.size); obtain ⟨b2, bn, hBS⟩ := HX2.out _ hBr; obtain ⟨_, _, _, _, _, _, f0, f1, f2, f3, f4, f5, z2⟩ := b2.g6; obtain ⟨n0, n1, n2, n3, n4, n5, _⟩ := bn.g6; obtain ⟨p0, p1, p2, p3, p4, p5, g0, g1, g2, g3, g4, g5, z4⟩ := bmr.g6) | (go_at_call 58; refine (HTm.out _).mono ?_; rintro e wx ⟨rfl, rfl⟩) | (go_at_call 59; refine (HTk.out _).mono ?_; rintro e wx ⟨rfl, rfl⟩) | (go_at_call 60; refine (HVs.out _).mono ?_; rintro e wx ⟨rfl, rfl⟩) | (go_at_call 61; refine (HLn.out _).mono ?_; rintro e w7 ⟨rfl, hC7⟩; have bmr := bmr.call hC7; have hown := hown.below hC7 (ρ _); have hBr := hBr.trans (hC7.mono hBr.size); obtain ⟨b2, bn, hBS⟩ := HX2.out _ hBr; obtain ⟨_, _, _, _, _, _, f0, f1, f2, f3, f4, f5, z2⟩ := b2.g6; obtain ⟨n0, n1, n2, n3, n4, n5, _⟩ := bn.g6; obtain ⟨p0, p1, p2, p3, p4, p5, g0, g1, g2, g3, g4, g5, z4⟩ := bmr.g6; have hlen := hdrs_len hown) | (go_at_call 62; refine (HNm.out _).mono ?_; rintro e wx ⟨rfl, rfl⟩))
           refine any_world (R := bodyPost _ _ _ _ _) (fun w' => Blk w' w.heap.size 24 #[.string ⟨#[]⟩, .string ⟨#[]⟩, .int .i64 0, .string ⟨#[]⟩, .slice none 0 0, .string ⟨#[]⟩] ∧ Below w.heap.size w w') ⟨b2.put6, below_put6 hBS (ρ _)⟩ ?_
           rintro wF ⟨bF, hBF⟩
           obtain ⟨r0, r1, r2, r3, r4, r5, _⟩ := bF.g6
           refine bodyPost_ret (v := .tuple #[.agg #[.string ⟨#[]⟩, .string ⟨#[]⟩, .int .i64 0, .string ⟨#[]⟩, .slice none 0 0, .string ⟨#[]⟩], .int .i64 62]) (by simp [results, Tryz.results16, go_sem, r0, r1, r2, r3, r4, r5]) rfl ?_
           rw [HP.out]
           exact post_bad 62 hBF
          ·have HN2 := κ (hLN.out H nn (by rw [hk2, if_neg (by rintro (h | h); exact h rfl; exact hzz h)]))
           obtain rfl : b = false := by rw [HBZ.out]; exact decide_eq_false hzz
           clear hk2
           go_wp2_with (first | (go_at_call 55; refine (HCut.out _).mono ?_; rintro e w4 ⟨rfl, hD⟩; have bmr := bmr.call hD.below; have hown := hown.below hD.below (ρ _); have hBr := hBr.trans hD.below) | (go_at_call 57; refine (HTr.out _).mono ?_; rintro e wx ⟨rfl, rfl⟩) | (go_at_call 56; refine (HLo.out _).mono ?_; rintro e w6 ⟨rfl, hC6⟩; have bmr := bmr.call hC6; have hown := hown.below hC6 (ρ _); have hBr := hBr.trans (hC6.mono hBr.size); obtain ⟨b2, bn, hBS⟩ := HX2.out _ hBr; obtain ⟨_, _, _, _, _, _, f0, f1, f2, f3, f4, f5, z2⟩ := b2.g6; obtain ⟨n0, n1, n2, n3, n4, n5, _⟩ := bn.g6; obtain ⟨p0, p1, p2, p3, p4, p5, g0, g1, g2, g3, g4, g5, z4⟩ := bmr.g6) | (go_at_call 58; refine (HTm.out _).mono ?_; rintro e wx ⟨rfl, rfl⟩) | (go_at_call 59; refine (HTk.out _).mono ?_; rintro e wx ⟨rfl, rfl⟩) | (go_at_call 60; refine (HVs.out _).mono ?_; rintro e wx ⟨rfl, rfl⟩) | (go_at_call 61; refine (HLn.out _).mono ?_; rintro e w7 ⟨rfl, hC7⟩; have bmr := bmr.call hC7; have hown := hown.below hC7 (ρ _); have hBr := hBr.trans (hC7.mono hBr.size); obtain ⟨b2, bn, hBS⟩ := HX2.out _ hBr; obtain ⟨_, _, _, _, _, _, f0, f1, f2, f3, f4, f5, z2⟩ := b2.g6; obtain ⟨n0, n1, n2, n3, n4, n5, _⟩ := bn.g6; obtain ⟨p0, p1, p2, p3, p4, p5, g0, g1, g2, g3, g4, g5, z4⟩ := bmr.g6; have hlen := hdrs_len hown) | (go_at_call 62; refine (HNm.out _).mono ?_; rintro e wx ⟨rfl, rfl⟩))
           go_roundw
           case rel => exact ⟨q + 1, i + 1, H, nn, u, true, by omega, by omega, by omega, by go_num, by rw [sizeR_yes nb0], rfl, (decide_eq_true nb0).symm, hBr, Nat.succ_le_of_lt z4, bmr, hown, hH, by omega, nb1, HN2.out⟩
           case measure => simp [intOf]; omega
         ·have HP := κ (HP.out.trans (hLB.out 62 (by decide) (by rw [hk2, if_pos (.inl hn0)])))
          have t0 : (ne != 0) = true := by simpa using hn0
          clear hk2 hn0 hnb
          go_wp2_with (first | (go_at_call 55; refine (HCut.out _).mono ?_; rintro e w4 ⟨rfl, hD⟩; have bmr := bmr.call hD.below; have hown := hown.below hD.below (ρ _); have hBr := hBr.trans hD.below) | (go_at_call 57; refine (HTr.out _).mono ?_; rintro e wx ⟨rfl, rfl⟩) | (go_at_call 56; refine (HLo.out _).mono ?_; rintro e w6 ⟨rfl, hC6⟩; have bmr := bmr.call hC6; have hown := hown.below hC6 (ρ _); have hBr := hBr.trans (hC6.mono hBr.size); obtain ⟨b2, bn, hBS⟩ := HX2.out _ hBr; obtain ⟨_, _, _, _, _, _, f0, f1, f2, f3, f4, f5, z2⟩ := b2.g6; obtain ⟨n0, n1, n2, n3, n4, n5, _⟩ := bn.g6; obtain ⟨p0, p1, p2, p3, p4, p5, g0, g1, g2, g3, g4, g5, z4⟩ := bmr.g6) | (go_at_call 58; refine (HTm.out _).mono ?_; rintro e wx ⟨rfl, rfl⟩) | (go_at_call 59; refine (HTk.out _).mono ?_; rintro e wx ⟨rfl, rfl⟩) | (go_at_call 60; refine (HVs.out _).mono ?_; rintro e wx ⟨rfl, rfl⟩) | (go_at_call 61; refine (HLn.out _).mono ?_; rintro e w7 ⟨rfl, hC7⟩; have bmr := bmr.call hC7; have hown := hown.below hC7 (ρ _); have hBr := hBr.trans (hC7.mono hBr.size); obtain ⟨b2, bn, hBS⟩ := HX2.out _ hBr; obtain ⟨_, _, _, _, _, _, f0, f1, f2, f3, f4, f5, z2⟩ := b2.g6; obtain ⟨n0, n1, n2, n3, n4, n5, _⟩ := bn.g6; obtain ⟨p0, p1, p2, p3, p4, p5, g0, g1, g2, g3, g4, g5, z4⟩ := bmr.g6; have hlen := hdrs_len hown) | (go_at_call 62; refine (HNm.out _).mono ?_; rintro e wx ⟨rfl, rfl⟩))
          refine any_world (R := bodyPost _ _ _ _ _) (fun w' => Blk w' w.heap.size 24 #[.string ⟨#[]⟩, .string ⟨#[]⟩, .int .i64 0, .string ⟨#[]⟩, .slice none 0 0, .string ⟨#[]⟩] ∧ Below w.heap.size w w') ⟨b2.put6, below_put6 hBS (ρ _)⟩ ?_
          rintro wF ⟨bF, hBF⟩
          obtain ⟨r0, r1, r2, r3, r4, r5, _⟩ := bF.g6
          refine bodyPost_ret (v := .tuple #[.agg #[.string ⟨#[]⟩, .string ⟨#[]⟩, .int .i64 0, .string ⟨#[]⟩, .slice none 0 0, .string ⟨#[]⟩], .int .i64 62]) (by simp [results, Tryz.results16, go_sem, r0, r1, r2, r3, r4, r5]) rfl ?_
          rw [HP.out]
          exact post_bad 62 hBF
       all_goals
        have HP := κ (HP.out.trans (hLB.out 61 (by decide) (hn61 (by first | exact .inl rfl | exact .inr (.inl htk) | exact .inr (.inr hvs)))))
        rw [htk] at HTk
        rw [hvs] at HVs
        clear htk hvs hn61 hnok hnb
        go_wp2_with (first | (go_at_call 55; refine (HCut.out _).mono ?_; rintro e w4 ⟨rfl, hD⟩; have bmr := bmr.call hD.below; have hown := hown.below hD.below (ρ _); have hBr := hBr.trans hD.below) | (go_at_call 57; refine (HTr.out _).mono ?_; rintro e wx ⟨rfl, rfl⟩) | (go_at_call 56; refine (HLo.out _).mono ?_; rintro e w6 ⟨rfl, hC6⟩; have bmr := bmr.call hC6; have hown := hown.below hC6 (ρ _); have hBr := hBr.trans (hC6.mono hBr.size); obtain ⟨b2, bn, hBS⟩ := HX2.out _ hBr; obtain ⟨_, _, _, _, _, _, f0, f1, f2, f3, f4, f5, z2⟩ := b2.g6; obtain ⟨n0, n1, n2, n3, n4, n5, _⟩ := bn.g6; obtain ⟨p0, p1, p2, p3, p4, p5, g0, g1, g2, g3, g4, g5, z4⟩ := bmr.g6) | (go_at_call 58; refine (HTm.out _).mono ?_; rintro e wx ⟨rfl, rfl⟩) | (go_at_call 59; refine (HTk.out _).mono ?_; rintro e wx ⟨rfl, rfl⟩) | (go_at_call 60; refine (HVs.out _).mono ?_; rintro e wx ⟨rfl, rfl⟩) | (go_at_call 61; refine (HLn.out _).mono ?_; rintro e w7 ⟨rfl, hC7⟩; have bmr := bmr.call hC7; have hown := hown.below hC7 (ρ _); have hBr := hBr.trans (hC7.mono hBr.size); obtain ⟨b2, bn, hBS⟩ := HX2.out _ hBr; obtain ⟨_, _, _, _, _, _, f0, f1, f2, f3, f4, f5, z2⟩ := b2.g6; obtain ⟨n0, n1, n2, n3, n4, n5, _⟩ := bn.g6; obtain ⟨p0, p1, p2, p3, p4, p5, g0, g1, g2, g3, g4, g5, z4⟩ := bmr.g6; have hlen := hdrs_len hown) | (go_at_call 62; refine (HNm.out _).mono ?_; rintro e wx ⟨rfl, rfl⟩))
        refine any_world (R := bodyPost _ _ _ _ _) (fun w' => Blk w' w.heap.size 24 #[.string ⟨#[]⟩, .string ⟨#[]⟩, .int .i64 0, .string ⟨#[]⟩, .slice none 0 0, .string ⟨#[]⟩] ∧ Below w.heap.size w w') ⟨b2.put6, below_put6 hBS (ρ _)⟩ ?_
        rintro wF ⟨bF, hBF⟩
        obtain ⟨r0, r1, r2, r3, r4, r5, _⟩ := bF.g6
        refine bodyPost_ret (v := .tuple #[.agg #[.string ⟨#[]⟩, .string ⟨#[]⟩, .int .i64 0, .string ⟨#[]⟩, .slice none 0 0, .string ⟨#[]⟩], .int .i64 61]) (by simp [results, Tryz.results16, go_sem, r0, r1, r2, r3, r4, r5]) rfl ?_
        rw [HP.out]
        exact post_bad 61 hBF
      ·have hle := lines_end' ts H z i (by omega) HPP.out
       have hin : ¬ ((q : Int) < (ts.length : Int) + 1) := by omega
       have hrl : rest = us (s.extract k s.size) := by rw [HRS.out, us_tail]
       have hzl : (s.extract k s.size).size = s.size - k := by rw [size_extract _ _ _ (ρ _)]
       have hrn : (rest.length : Int) = (s.size : Int) - (k : Int) := by rw [hrl, length_us, hzl]; omega
       have hb62 := end_bad m rest H z
       have hok := end_ok m rest H z
       rw [hrn] at hb62 hok
       have hsz : 0 ≤ sizeR z ((s.size : Int) - (k : Int)) := by unfold sizeR; split <;> omega
       obtain ⟨SZ, hSZ⟩ : ∃ x, x = sizeR z ((s.size : Int) - (k : Int)) := ⟨_, rfl⟩
       rw [← hSZ] at hb62 hok hsz
       simp only [← hSZ]
       clear hSZ
       by_cases hgt : (s.size : Int) - (k : Int) < SZ
       ·have HP := κ (by have := HP.out; rw [hle, hb62 hgt] at this; exact this)
        clear hle hb62 hok hrl hrn hzl
        go_wp2
        refine any_world (R := bodyPost _ _ _ _ _) (fun w' => Blk w' w.heap.size 24 #[.string ⟨#[]⟩, .string ⟨#[]⟩, .int .i64 0, .string ⟨#[]⟩, .slice none 0 0, .string ⟨#[]⟩] ∧ Below w.heap.size w w') ⟨b2.put6, below_put6 hBS (ρ _)⟩ ?_
        rintro wF ⟨bF, hBF⟩
        obtain ⟨r0, r1, r2, r3, r4, r5, _⟩ := bF.g6
        refine bodyPost_ret (v := .tuple #[.agg #[.string ⟨#[]⟩, .string ⟨#[]⟩, .int .i64 0, .string ⟨#[]⟩, .slice none 0 0, .string ⟨#[]⟩], .int .i64 62]) (by simp [results, Tryz.results16, go_sem, r0, r1, r2, r3, r4, r5]) rfl ?_
        rw [HP.out]
        exact post_bad 62 hBF
       ·have HE := κ (by have := HP.out; rw [hle, hok hgt] at this; exact this)
        have e1 : ((k : Int) + SZ).toNat = k + SZ.toNat := by omega
        have e2 : (k : Int) ≤ (k : Int) + SZ := by omega
        have e3 : (k : Int) + SZ ≤ (s.size : Int) := by omega
        have e4 : (0 : Int) ≤ (k : Int) := by omega
        obtain ⟨BD, hBD⟩ : ∃ BD, BD = s.extract k (k + SZ.toNat) := ⟨_, rfl⟩
        have HU := κ (show rest.take SZ.toNat = us BD by rw [hBD, us_extract, HRS.out, Nat.add_sub_cancel_left])
        obtain ⟨ao, cp, rfl, hfr0⟩ := hown.len
        have hfr := hown.fresh
        have hRd := hown.read
        obtain ⟨p0, p1, p2, p3, p4, p5, g0, g1, g2, g3, g4, g5, z4⟩ := bmr.g6
        have hg5 : w.heap.size ≠ (⟨w2.heap.size, 5, none⟩ : Addr).block := by show w.heap.size ≠ w2.heap.size; omega
        have hg8 : w.heap.size < w2.heap.size := by omega
        have hg6 : w.heap.size ≤ (⟨w2.heap.size, 5, none⟩ : Addr).block := by show w.heap.size ≤ w2.heap.size; omega
        have hg7 : w.heap.size < w2.heap.size + 1 := by omega
        have hr5 : RHdrs (wr.setCell ⟨w2.heap.size, 5, none⟩ (.string BD)) (.slice ao H.length cp) H := hRd.set hfr (Nat.lt_succ_self _) _
        clear hle hb62 hok hrl hrn hzl hRd
        go_wp2
        simp only [← hBD]
        refine any_world (R := bodyPost _ _ _ _ _) (fun w' => Blk w' w.heap.size 24 #[.string M, .string TG, .int .i64 X, .string RS, .slice ao H.length cp, .string BD] ∧ Below w.heap.size w w' ∧ RHdrs w' (.slice ao H.length cp) H) ⟨(b2.far hg5 _).put6, below_put6 (hBS.setCell hg6 _) (ρ _), hr5.put6 hfr hg7⟩ ?_
        rintro wF ⟨bF, hBF, hRF⟩
        obtain ⟨r0, r1, r2, r3, r4, r5, _⟩ := bF.g6
        refine bodyPost_ret (v := .tuple #[.agg #[.string M, .string TG, .int .i64 X, .string RS, .slice ao H.length cp, .string BD], .int .i64 0]) (by simp [results, Tryz.results16, go_sem, r0, r1, r2, r3, r4, r5]) rfl ?_
        rw [HE.out]
        refine ⟨.slice ao H.length cp, ?_, hRF, hfr.mono (by omega), hBF⟩
        rw [HMV.out, HU.out, bs_us]
end Go.Proofs.YtgkilllbkljibaaGreatDoor
