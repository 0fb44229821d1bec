/-
  Packed: XFrO, XRep, XSta, XRpb, XOpen, XOpen6.
-/
import Derived.Test.YtgkilllbkljibaaGreatDoorR15
import Derived.Test.YtgkilllbkljibaaGreatDoorR09
import Derived.Test.YtgkilllbkljibaaGreatDoorR05
import Derived.Test.YtgkilllbkljibaaGreatDoorR13
import Derived.Test.YtgkilllbkljibaaGreatDoorR14
import Derived.Test.YtgkilllbkljibaaGreatDoorR04
import Derived.Test.YtgkilllbkljibaaGreatDoorRows
import Derived.Test.YtgkilllbkljibaaGreatDoorR01
import Derived.SliceStrings
import Derived.SizedLaws
import Derived.OpenShut
import Derived.ProofKit
import Derived.Lib.SmallJoins
import Derived.Test.YtgkilllbkljibaaGreatDoorR08
import Derived.Deep.Slices
import Derived.Deep.Fields
import Derived.ChangeSame
namespace Go.Proofs.YtgkilllbkljibaaGreatDoor
set_option linter.unusedSimpArgs false
set_option linter.unusedVariables false
open Go.RowKit


/-- what the reference keeps of the length that was told: the size, and whether it was told -/
def sizeR (z : Int) (n : Int) : Int := if 0 ≤ z then z else n
theorem sizeR_no {z n : Int} (h : z < 0) : sizeR z n = n := by unfold sizeR; rw [if_neg (by omega)]
theorem sizeR_yes {z n : Int} (h : 0 ≤ z) : sizeR z n = z := by unfold sizeR; rw [if_pos h]
theorem end_bad (m : Mg) (rest : List UInt8) (H : List Hdr) (z : Int) (h : (rest.length : Int) < sizeR z rest.length) : endS m rest ((H, z), 0) = (mg0, 62) := by
  unfold endS; rw [if_neg (fun h => h rfl), if_pos]
  unfold sizeR at h; split at h
  · exact h
  · omega
theorem end_ok (m : Mg) (rest : List UInt8) (H : List Hdr) (z : Int) (h : ¬ (rest.length : Int) < sizeR z rest.length) : endS m rest ((H, z), 0) = ({ m with hdrs := H, body := rest.take (sizeR z rest.length).toNat }, 0) := by
  unfold endS; rw [if_neg (fun h => h rfl)]
  unfold sizeR at h ⊢
  unfold bodyS
  by_cases hz : 0 ≤ z
  · rw [if_pos hz] at h ⊢
    rw [if_neg h, if_pos hz]
  · rw [if_neg hz, if_neg (by dsimp only; omega), if_neg hz]
    congr 1
    simp
theorem lines_end' (ts : List (List UInt8)) (H : List Hdr) (z : Int) (i : Nat) (h : ts.length ≤ i) (hp : linesS [] (-1) ts = linesS H z (ts.drop i)) : linesS [] (-1) ts = ((H, z), 0) := by
  rw [hp, List.drop_eq_nil_iff.2 h, linesS]

set_option maxRecDepth 100000 in
set_option maxHeartbeats 12800000 in
theorem parseR_c (s : ByteArray) (hs : s.size ≤ 9223372036854775807) (w : World) :
    Calls Tryz.prog 16 #[.string s] w fun e w' => ParsePost (parseS (us s)) w e w' := by
  have b0 : Blk ((w.alloc (.cells #[.string ⟨#[]⟩, .string ⟨#[]⟩, .int .i64 0, .string ⟨#[]⟩, .slice none 0 0, .string ⟨#[]⟩] 24)).alloc (.cells #[.string ⟨#[]⟩, .string ⟨#[]⟩, .int .i64 0, .string ⟨#[]⟩, .slice none 0 0, .string ⟨#[]⟩] 24)) w.heap.size 24 #[.string ⟨#[]⟩, .string ⟨#[]⟩, .int .i64 0, .string ⟨#[]⟩, .slice none 0 0, .string ⟨#[]⟩] := (Blk.new _ _ _).alloc _
  have b1 : Blk ((w.alloc (.cells #[.string ⟨#[]⟩, .string ⟨#[]⟩, .int .i64 0, .string ⟨#[]⟩, .slice none 0 0, .string ⟨#[]⟩] 24)).alloc (.cells #[.string ⟨#[]⟩, .string ⟨#[]⟩, .int .i64 0, .string ⟨#[]⟩, .slice none 0 0, .string ⟨#[]⟩] 24)) (w.heap.size + 1) 24 #[.string ⟨#[]⟩, .string ⟨#[]⟩, .int .i64 0, .string ⟨#[]⟩, .slice none 0 0, .string ⟨#[]⟩] := by have := Blk.new (w.alloc (.cells #[.string ⟨#[]⟩, .string ⟨#[]⟩, .int .i64 0, .string ⟨#[]⟩, .slice none 0 0, .string ⟨#[]⟩] 24)) 24 #[.string ⟨#[]⟩, .string ⟨#[]⟩, .int .i64 0, .string ⟨#[]⟩, .slice none 0 0, .string ⟨#[]⟩]; rw [World.size_alloc] at this; exact this
  have hB0 : Below w.heap.size w ((w.alloc (.cells #[.string ⟨#[]⟩, .string ⟨#[]⟩, .int .i64 0, .string ⟨#[]⟩, .slice none 0 0, .string ⟨#[]⟩] 24)).alloc (.cells #[.string ⟨#[]⟩, .string ⟨#[]⟩, .int .i64 0, .string ⟨#[]⟩, .slice none 0 0, .string ⟨#[]⟩] 24)) := ((Below.refl _ _).alloc (Nat.le_refl _) _).alloc (by simp) _
  obtain ⟨w0, hw0⟩ : ∃ w0, w0 = (w.alloc (.cells #[.string ⟨#[]⟩, .string ⟨#[]⟩, .int .i64 0, .string ⟨#[]⟩, .slice none 0 0, .string ⟨#[]⟩] 24)).alloc (.cells #[.string ⟨#[]⟩, .string ⟨#[]⟩, .int .i64 0, .string ⟨#[]⟩, .slice none 0 0, .string ⟨#[]⟩] 24) := ⟨_, rfl⟩
  have HZ0 := Lib.hid (show w.heap.size + 2 = w0.heap.size by rw [hw0]; simp)
  have HW0 := Lib.hid hw0.symm
  rw [← hw0] at b0 b1 hB0
  clear hw0
  have HX := Lib.hid (fun (wx : World) (h : Below w0.heap.size w0 wx) => (⟨b0.call h, b1.call h, hB0.trans (h.mono hB0.size)⟩ : Blk wx w.heap.size 24 #[.string ⟨#[]⟩, .string ⟨#[]⟩, .int .i64 0, .string ⟨#[]⟩, .slice none 0 0, .string ⟨#[]⟩] ∧ Blk wx (w.heap.size + 1) 24 #[.string ⟨#[]⟩, .string ⟨#[]⟩, .int .i64 0, .string ⟨#[]⟩, .slice none 0 0, .string ⟨#[]⟩] ∧ Below w.heap.size w wx))
  by_cases hl : 4096 < s.size
  · have HP := Lib.hid (parseS_long (us s) (by rw [length_us]; exact hl))
    clear b0 b1 hB0
    go_enter Tryz.func16, Tryz.ntmps16
    go_wp2
    refine bodyPost_ret (v := .tuple #[.agg #[.string ⟨#[]⟩, .string ⟨#[]⟩, .int .i64 0, .string ⟨#[]⟩, .slice none 0 0, .string ⟨#[]⟩], .int .i64 2]) (by simp [results, Tryz.results16, go_sem]) rfl ?_
    rw [HP.out]
    exact post_bad 2 (((Below.refl _ _).alloc (Nat.le_refl _) _).alloc (by simp) _)
  · have hl' : ¬ 4096 < (us s).length := by rw [length_us]; exact hl
    have HL := Lib.hid (headR_c s (by omega) w0)
    clear b0 b1 hB0
    unfold HeadPost at HL
    cases hh : headGo [] [] (us s) with
    | none =>
      have HP := Lib.hid (parseS_none _ hl' hh)
      rw [hh] at HL
      clear hh
      go_enter Tryz.func16, Tryz.ntmps16
      go_wp2_with (go_at_call 53; rw [HW0.out]; refine HL.out.mono ?_; rintro e w1 ⟨v, n, rfl, hC, rfl, rfl⟩; obtain ⟨b2, bn, hBS⟩ := HX.out _ hC; obtain ⟨_, _, _, _, _, _, f0, f1, f2, f3, f4, f5, z2⟩ := b2.g6; obtain ⟨n0, n1, n2, n3, n4, n5, _⟩ := bn.g6)
      refine any_world (R := bodyPost _ _ _ _ _) (fun w' => Blk w' w.heap.size 24 #[.string ⟨#[]⟩, .string ⟨#[]⟩, .int .i64 0, .string ⟨#[]⟩, .slice none 0 0, .string ⟨#[]⟩] ∧ Below w.heap.size w w') ⟨b2.put6, below_put6 hBS (Nat.le_refl _)⟩ ?_
      rintro wF ⟨bF, hBF⟩
      obtain ⟨r0, r1, r2, r3, r4, r5, _⟩ := bF.g6
      refine bodyPost_ret (v := .tuple #[.agg #[.string ⟨#[]⟩, .string ⟨#[]⟩, .int .i64 0, .string ⟨#[]⟩, .slice none 0 0, .string ⟨#[]⟩], .int .i64 63]) (by simp [results, Tryz.results16, go_sem, r0, r1, r2, r3, r4, r5]) rfl ?_
      rw [HP.out]
      exact post_bad 63 hBF
    | some LR =>
      obtain ⟨L, rest⟩ := LR
      have hp := parseS_some _ hl' L rest hh
      rw [hh] at HL
      clear hh
      cases L with
      | nil =>
        have HP := Lib.hid (show parseS (us s) = (mg0, 63) from hp)
        clear hp
        go_enter Tryz.func16, Tryz.ntmps16
        go_wp2_with (go_at_call 53; rw [HW0.out]; refine HL.out.mono ?_; rintro e w1 ⟨v, n, rfl, hC, hR, k, rfl, hk, hrest, hbd⟩; obtain ⟨b2, bn, hBS⟩ := HX.out _ hC; obtain ⟨_, _, _, _, _, _, f0, f1, f2, f3, f4, f5, z2⟩ := b2.g6; obtain ⟨n0, n1, n2, n3, n4, n5, _⟩ := bn.g6; obtain ⟨ao, cap, rfl⟩ : ∃ ao cap, v = .slice ao 0 cap := by rcases hR.cases with ⟨h, _⟩ | ⟨b, off, cap, h, _⟩ <;> first | exact h | exact ⟨_, _, h⟩)
        refine any_world (R := bodyPost _ _ _ _ _) (fun w' => Blk w' w.heap.size 24 #[.string ⟨#[]⟩, .string ⟨#[]⟩, .int .i64 0, .string ⟨#[]⟩, .slice none 0 0, .string ⟨#[]⟩] ∧ Below w.heap.size w w') ⟨b2.put6, below_put6 hBS (Nat.le_refl _)⟩ ?_
        rintro wF ⟨bF, hBF⟩
        obtain ⟨r0, r1, r2, r3, r4, r5, _⟩ := bF.g6
        refine bodyPost_ret (v := .tuple #[.agg #[.string ⟨#[]⟩, .string ⟨#[]⟩, .int .i64 0, .string ⟨#[]⟩, .slice none 0 0, .string ⟨#[]⟩], .int .i64 63]) (by simp [results, Tryz.results16, go_sem, r0, r1, r2, r3, r4, r5]) rfl ?_
        rw [HP.out]
        exact post_bad 63 hBF
      | cons t ts =>
        have hnil : (t :: ts : List (List UInt8)) = [] → False := fun h => by cases h
        have lz1 : (((ts.length : Int) + 1) == 0) = false := by rw [beq_eq_false_iff_ne]; omega
        have lz2 : (0 : Int) < (ts.length : Int) + 1 := by omega
        have lz3 : (1 : Int) ≤ (ts.length : Int) + 1 := by omega
        cases hst : startS t with
        | none =>
          have HP := Lib.hid (hp.trans (parse2_none t ts rest hst))
          clear hp
          have HS := Lib.hid (fun (ht : t.length ≤ 4096) wx => by have := startR_c (bs t) (by rw [size_bs]; omega) wx; rw [us_bs, hst] at this; exact this)
          unfold StartPost at HS
          clear hst
          go_enter Tryz.func16, Tryz.ntmps16
          go_wp2_with (first | (go_at_call 53; rw [HW0.out]; refine HL.out.mono ?_; rintro e w1 ⟨v, n, rfl, hC, hR, k, rfl, hk, hrest, hbd⟩; rcases hR.cases with ⟨_, h0⟩ | ⟨bl, off, cap, rfl, hcap, hmx, hlt, hcl⟩; (focus exact (hnil h0).elim); have x0 : w1.cell? ⟨bl, off, none⟩ = some (.string (bs t)) := hcl 0 (by simp); have htl := hbd t (List.mem_cons_self ..); rw [length_us] at hk; clear hcl hR hbd hrest) | (go_at_call 54; refine (HS.out (by omega) _).mono ?_; rintro e w2 ⟨v2, ok, rfl, hC2, ⟨M, TG, X, R, B, rfl⟩, rfl⟩; obtain ⟨b2, bn, hBS⟩ := HX.out _ (hC.trans (hC2.mono hC.size)); obtain ⟨_, _, _, _, _, _, f0, f1, f2, f3, f4, f5, z2⟩ := b2.g6; obtain ⟨n0, n1, n2, n3, n4, n5, _⟩ := bn.g6))
          refine any_world (R := bodyPost _ _ _ _ _) (fun w' => Blk w' w.heap.size 24 #[.string ⟨#[]⟩, .string ⟨#[]⟩, .int .i64 0, .string ⟨#[]⟩, .slice none 0 0, .string ⟨#[]⟩] ∧ Below w.heap.size w w') ⟨b2.put6.alloc _, (below_put6 hBS (Nat.le_refl _)).alloc (below_put6 hBS (Nat.le_refl _)).size _⟩ ?_
          rintro wF ⟨bF, hBF⟩
          obtain ⟨r0, r1, r2, r3, r4, r5, _⟩ := bF.g6
          refine bodyPost_ret (v := .tuple #[.agg #[.string ⟨#[]⟩, .string ⟨#[]⟩, .int .i64 0, .string ⟨#[]⟩, .slice none 0 0, .string ⟨#[]⟩], .int .i64 60]) (by simp [results, Tryz.results16, go_sem, r0, r1, r2, r3, r4, r5]) rfl ?_
          rw [HP.out]
          exact post_bad 60 hBF
        | some m =>
          have HP := Lib.hid (hp.trans (parse2_some t ts rest m hst))
          clear hp
          have hso := startS_ok t m hst
          have HS := Lib.hid (fun (ht : t.length ≤ 4096) wx => show Calls Tryz.prog 54 #[.string (bs t)] wx fun e w' => e = .returned (.tuple #[.agg #[.string (bs m.method), .string (bs m.target), .int .i64 m.status, .string (bs m.reason), .slice none 0 0, .string ⟨#[]⟩], .bool true]) ∧ Below wx.heap.size wx w' from by
            have := startR_c (bs t) (by rw [size_bs]; omega) wx
            rw [us_bs, hst] at this
            refine this.mono ?_
            rintro e w' ⟨v2, ok, rfl, hC2, _, rfl, rfl, _, hmb⟩
            refine ⟨?_, hC2⟩
            unfold mgv sv
            rw [hmb]; rfl)
          clear hst
          obtain ⟨M, hM0⟩ : ∃ M, M = bs m.method := ⟨_, rfl⟩
          obtain ⟨TG, hT0⟩ : ∃ M, M = bs m.target := ⟨_, rfl⟩
          obtain ⟨RS, hR0⟩ : ∃ M, M = bs m.reason := ⟨_, rfl⟩
          obtain ⟨X, hX0⟩ : ∃ X, X = m.status := ⟨_, rfl⟩
          rw [← hM0, ← hT0, ← hR0, ← hX0] at HS
          have HMV := Lib.hid (fun (u : Value) (H : List Hdr) (b : List UInt8) => show mgv { m with hdrs := H, body := b } u = .agg #[.string M, .string TG, .int .i64 X, .string RS, u, .string (bs b)] by rw [hM0, hT0, hR0, hX0]; rfl)
          clear hM0 hT0 hR0 hX0 hso
          go_enter Tryz.func16, Tryz.ntmps16
          go_wp2_with (first | (go_at_call 53; rw [HW0.out]; refine HL.out.mono ?_; rintro e w1 ⟨v, n, rfl, hC, hR, k, rfl, hk, hrest, hbd⟩; rcases hR.cases with ⟨_, h0⟩ | ⟨bl, off, cap, rfl, hcap, hmx, hlt, hcl⟩; (focus exact (hnil h0).elim); have x0 : w1.cell? ⟨bl, off, none⟩ = some (.string (bs t)) := hcl 0 (by simp); have htz : ts.length < 9223372036854775807 := (by have := hcap; simp only [List.length_cons] at this; unfold maxLen at hmx; omega); have htl := hbd t (List.mem_cons_self ..); rw [length_us] at hk; have hk' : (k : Int) ≤ (s.size : Int) := (by omega); have HCL := Lib.hid hcl; have HBD := Lib.hid hbd; have HRS := Lib.hid hrest; clear hcl hR hbd hrest) | (go_at_call 54; refine (HS.out (by omega) _).mono ?_; rintro e w2 ⟨rfl, hC2⟩))
          have bm : Blk (w2.alloc (.cells #[.string M, .string TG, .int .i64 X, .string RS, .slice none 0 0, .string ⟨#[]⟩] 24)) w2.heap.size 24 #[.string M, .string TG, .int .i64 X, .string RS, .slice none 0 0, .string ⟨#[]⟩] := Blk.new _ _ _
          obtain ⟨w3, hw3⟩ : ∃ w3, w3 = w2.alloc (.cells #[.string M, .string TG, .int .i64 X, .string RS, .slice none 0 0, .string ⟨#[]⟩] 24) := ⟨_, rfl⟩
          have hB3 : Below w2.heap.size w2 w3 := by rw [hw3]; exact (Below.refl _ _).alloc (Nat.le_refl _) _
          have hz3 : w3.heap.size = w2.heap.size + 1 := by rw [hw3]; simp
          rw [← hw3] at bm
          simp only [← hw3]
          clear hw3
          have hCC := hC.trans (hC2.mono hC.size)
          have HX2 := Lib.hid (fun (wx : World) (h : Below w2.heap.size w2 wx) => HX.out wx (hCC.trans (h.mono hCC.size)))
          have hG2 : w.heap.size + 2 ≤ w2.heap.size := by have := hCC.size; rw [HZ0.out]; exact this
          have HCR := Lib.hid (fun (wx : World) (h : Below w2.heap.size w2 wx) (q i : Nat) (h1 : i + 1 ≤ q) (h2 : q ≤ i + 1) (hi : i < ts.length) => (show wx.cell? ⟨bl, off + q, none⟩ = some (.string (bs ts[i])) from by
            have hb := hC2.trans (h.mono hC2.size)
            rw [hb.cell (p := ⟨bl, off + q, none⟩) hlt, show off + q = off + (i + 1) by omega]
            exact HCL.out (i + 1) (by simp; omega)))
          go_loopw [11, 9, 10] (fun j zz tt wr => ∃ (q i : Nat) (H : List Hdr) (z : Int) (u : Value) (b : Bool), i + 1 ≤ q ∧ q ≤ i + 1 ∧ i ≤ ts.length ∧ j = .int .i64 q ∧ zz = .int .i64 (sizeR z ((s.size : Int) - (k : Int))) ∧ tt = .bool b ∧ b = decide (0 ≤ z) ∧ Below w2.heap.size w2 wr ∧ w2.heap.size + 1 ≤ wr.heap.size ∧ Blk wr w2.heap.size 24 #[.string M, .string TG, .int .i64 X, .string RS, u, .string ⟨#[]⟩] ∧ Hdrs wr (w2.heap.size + 1) u H ∧ H.length ≤ 64 ∧ -1 ≤ z ∧ z ≤ 4096 ∧ linesS [] (-1) ts = linesS H z (ts.drop i)) (fun j _ _ _ => ts.length + 1 - (intOf j).toNat)
          case atStart => exact ⟨1, 0, [], -1, .slice none 0 0, false, Nat.le_refl _, Nat.le_refl _, Nat.zero_le _, rfl, by rw [sizeR_no (by decide)], rfl, rfl, hB3, by omega, bm, Hdrs.nil _ _, Nat.zero_le _, by decide, by decide, rfl⟩
          case round =>
            obtain ⟨q, i, H, z, u, b, hq1, hq2, hi, rfl, rfl, rfl, hbz, hBr, hwz, bmr, hown, hH, hz0, hz1, hpp⟩ := hrel
            have HPP := Lib.hid hpp
            have HBZ := Lib.hid hbz
            clear hpp hbz
            obtain ⟨b2, bn, hBS⟩ := HX2.out _ hBr; obtain ⟨_, _, _, _, _, _, f0, f1, f2, f3, f4, f5, z2⟩ := b2.g6; obtain ⟨n0, n1, n2, n3, n4, n5, _⟩ := bn.g6
            by_cases hil : i < ts.length
            · have x1 := HCR.out wr hBr q i hq1 hq2 hil
              have q0 : (0 : Int) ≤ (q : Int) := by omega
              have q1 : (q : Int) < (ts.length : Int) + 1 := by omega
              have htm : ts[i].length ≤ 4096 := by have := HBD.out ts[i] (List.mem_cons_of_mem _ (List.getElem_mem _)); omega
              have hLN := Lib.hid (fun H' z' hc => lines_next ts H H' z z' i hil HPP.out hc)
              have hLB := Lib.hid (fun c h0 hc => lines_bad ts H z i hil m rest c h0 HPP.out hc)
              have hls : lineS H z ts[i] = lineOf H z (longS (trimR (cutb 58 ts[i]).1)) (trim (cutb 58 ts[i]).2.1) (cutb 58 ts[i]).2.2 := rfl
              have l1 := cutb_le 58 ts[i]
              have l2 := trim_length (cutb 58 ts[i]).2.1
              have l3 : (trimR (cutb 58 ts[i]).1).length ≤ (cutb 58 ts[i]).1.length := by unfold trimR; rw [List.length_reverse]; exact Nat.le_trans (List.dropWhile_suffix _).length_le (by rw [List.length_reverse]; exact Nat.le_refl _)
              have l4 := longS_le (trimR (cutb 58 ts[i]).1)
              have HCut := Lib.hid (fun wx => cutR_c (bs ts[i]) (by rw [size_bs]; omega) 58 wx)
              have HTr := Lib.hid (fun wx => behind_c (bs (cutb 58 ts[i]).1) (by rw [size_bs]; omega) wx)
              have HLo := Lib.hid (fun wx => longR_c (bs (trimR (cutb 58 ts[i]).1)) (by rw [size_bs]; omega) wx)
              have HTm := Lib.hid (fun wx => trimR_c (bs (cutb 58 ts[i]).2.1) (by rw [size_bs]; omega) wx)
              have HTk := Lib.hid (fun wx => tokenR_c (bs (longS (trimR (cutb 58 ts[i]).1))) (by rw [size_bs]; omega) wx)
              have HVs := Lib.hid (fun wx => visR_c (bs (trim (cutb 58 ts[i]).2.1)) (by rw [size_bs]; omega) wx)
              have HLn := Lib.hid (fun wx => lengthR_c (bs (longS (trimR (cutb 58 ts[i]).1))) (by rw [size_bs]; omega) wx)
              have HNm := Lib.hid (fun wx => numberR_c (bs (trim (cutb 58 ts[i]).2.1)) (by rw [size_bs]; omega) 4096 (by decide) (by decide) wx)
              rw [us_bs] at HCut HTr HLo HTm HTk HVs HLn HNm
              rw [show (((58 : UInt8).toNat : Nat) : Int) = 58 from rfl] at HCut
              obtain ⟨nm, hnm⟩ : ∃ x, x = longS (trimR (cutb 58 ts[i]).1) := ⟨_, rfl⟩
              obtain ⟨vv, hvv⟩ : ∃ x, x = trim (cutb 58 ts[i]).2.1 := ⟨_, rfl⟩
              rw [← hnm] at HLo HTk HLn hls
              rw [← hvv] at HTm HVs HNm hls
              rw [hls] at hLN hLB
              obtain ⟨is, his⟩ : ∃ x, x = (cutb 58 ts[i]).2.2 := ⟨_, rfl⟩
              rw [← his] at HCut hLN hLB
              obtain ⟨CA, hCA⟩ : ∃ x, x = bs (cutb 58 ts[i]).1 := ⟨_, rfl⟩
              obtain ⟨CB, hCB⟩ : ∃ x, x = bs (cutb 58 ts[i]).2.1 := ⟨_, rfl⟩
              obtain ⟨TR, hTR⟩ : ∃ x, x = bs (trimR (cutb 58 ts[i]).1) := ⟨_, rfl⟩
              rw [← hCA] at HCut HTr
              rw [← hCB] at HCut HTm
              rw [← hTR] at HTr HLo
              have hn61 := line_61 H z nm vv is
              have hnok := line_ok H z nm vv
              have hnb := number_bd vv 4096 (by decide)
              have uN := us_bs nm
              have uV := us_bs vv
              obtain ⟨N, hN⟩ : ∃ x, x = bs nm := ⟨_, rfl⟩
              obtain ⟨V, hV⟩ : ∃ x, x = bs vv := ⟨_, rfl⟩
              rw [← hN] at HLo HTk HLn uN
              rw [← hV] at HTm HVs HNm uV
              have HUN := Lib.hid uN
              have HUV := Lib.hid uV
              clear hls l1 l2 l3 l4 hnm hvv his hCA hCB hTR hN hV htm uN uV
              cases htk : token nm <;> cases hvs : visS vv <;> cases is
              case true.true.true =>
                have hk2 := hnok htk hvs
                rw [htk] at HTk
                rw [hvs] at HVs
                clear htk hvs hn61 hnok
                cases hln : isLen nm
                · rw [hln] at HLn
                  rw [if_pos hln] at hk2
                  clear hnb hln
                  by_cases h64 : 64 ≤ H.length
                  · have HP := Lib.hid (HP.out.trans (hLB.out 4 (by decide) (by rw [hk2, if_pos h64])))
                    have t64 : ((64 : Int) ≤ (H.length : Int)) := by omega
                    clear hk2
                    go_wp2_with (first | (go_at_call 55; refine (HCut.out _).mono ?_; rintro e w4 ⟨rfl, hD⟩; have bmr := bmr.call hD.below; have hown := hown.below hD.below (Nat.le_refl _); have hBr := hBr.trans hD.below) | (go_at_call 57; refine (HTr.out _).mono ?_; rintro e wx ⟨rfl, rfl⟩) | (go_at_call 56; refine (HLo.out _).mono ?_; rintro e w6 ⟨rfl, hC6⟩; have bmr := bmr.call hC6; have hown := hown.below hC6 (Nat.le_refl _); have hBr := hBr.trans (hC6.mono hBr.size); obtain ⟨b2, bn, hBS⟩ := HX2.out _ hBr; obtain ⟨_, _, _, _, _, _, f0, f1, f2, f3, f4, f5, z2⟩ := b2.g6; obtain ⟨n0, n1, n2, n3, n4, n5, _⟩ := bn.g6; obtain ⟨p0, p1, p2, p3, p4, p5, g0, g1, g2, g3, g4, g5, z4⟩ := bmr.g6) | (go_at_call 58; refine (HTm.out _).mono ?_; rintro e wx ⟨rfl, rfl⟩) | (go_at_call 59; refine (HTk.out _).mono ?_; rintro e wx ⟨rfl, rfl⟩) | (go_at_call 60; refine (HVs.out _).mono ?_; rintro e wx ⟨rfl, rfl⟩) | (go_at_call 61; refine (HLn.out _).mono ?_; rintro e w7 ⟨rfl, hC7⟩; have bmr := bmr.call hC7; have hown := hown.below hC7 (Nat.le_refl _); have hBr := hBr.trans (hC7.mono hBr.size); obtain ⟨b2, bn, hBS⟩ := HX2.out _ hBr; obtain ⟨_, _, _, _, _, _, f0, f1, f2, f3, f4, f5, z2⟩ := b2.g6; obtain ⟨n0, n1, n2, n3, n4, n5, _⟩ := bn.g6; obtain ⟨p0, p1, p2, p3, p4, p5, g0, g1, g2, g3, g4, g5, z4⟩ := bmr.g6; have hlen := hdrs_len hown) | (go_at_call 62; refine (HNm.out _).mono ?_; rintro e wx ⟨rfl, rfl⟩))
                    refine any_world (R := bodyPost _ _ _ _ _) (fun w' => Blk w' w.heap.size 24 #[.string ⟨#[]⟩, .string ⟨#[]⟩, .int .i64 0, .string ⟨#[]⟩, .slice none 0 0, .string ⟨#[]⟩] ∧ Below w.heap.size w w') ⟨b2.put6, below_put6 hBS (Nat.le_refl _)⟩ ?_
                    rintro wF ⟨bF, hBF⟩
                    obtain ⟨r0, r1, r2, r3, r4, r5, _⟩ := bF.g6
                    refine bodyPost_ret (v := .tuple #[.agg #[.string ⟨#[]⟩, .string ⟨#[]⟩, .int .i64 0, .string ⟨#[]⟩, .slice none 0 0, .string ⟨#[]⟩], .int .i64 4]) (by simp [results, Tryz.results16, go_sem, r0, r1, r2, r3, r4, r5]) rfl ?_
                    rw [HP.out]
                    exact post_bad 4 hBF
                  · have HN2 := Lib.hid (hLN.out (H ++ [⟨nm, vv⟩]) z (by rw [hk2, if_neg h64]))
                    have t64 : ¬ ((64 : Int) ≤ (H.length : Int)) := by omega
                    clear hk2
                    go_wp2_with (first | (go_at_call 55; refine (HCut.out _).mono ?_; rintro e w4 ⟨rfl, hD⟩; have bmr := bmr.call hD.below; have hown := hown.below hD.below (Nat.le_refl _); have hBr := hBr.trans hD.below) | (go_at_call 57; refine (HTr.out _).mono ?_; rintro e wx ⟨rfl, rfl⟩) | (go_at_call 56; refine (HLo.out _).mono ?_; rintro e w6 ⟨rfl, hC6⟩; have bmr := bmr.call hC6; have hown := hown.below hC6 (Nat.le_refl _); have hBr := hBr.trans (hC6.mono hBr.size); obtain ⟨b2, bn, hBS⟩ := HX2.out _ hBr; obtain ⟨_, _, _, _, _, _, f0, f1, f2, f3, f4, f5, z2⟩ := b2.g6; obtain ⟨n0, n1, n2, n3, n4, n5, _⟩ := bn.g6; obtain ⟨p0, p1, p2, p3, p4, p5, g0, g1, g2, g3, g4, g5, z4⟩ := bmr.g6) | (go_at_call 58; refine (HTm.out _).mono ?_; rintro e wx ⟨rfl, rfl⟩) | (go_at_call 59; refine (HTk.out _).mono ?_; rintro e wx ⟨rfl, rfl⟩) | (go_at_call 60; refine (HVs.out _).mono ?_; rintro e wx ⟨rfl, rfl⟩) | (go_at_call 61; refine (HLn.out _).mono ?_; rintro e w7 ⟨rfl, hC7⟩; have bmr := bmr.call hC7; have hown := hown.below hC7 (Nat.le_refl _); have hBr := hBr.trans (hC7.mono hBr.size); obtain ⟨b2, bn, hBS⟩ := HX2.out _ hBr; obtain ⟨_, _, _, _, _, _, f0, f1, f2, f3, f4, f5, z2⟩ := b2.g6; obtain ⟨n0, n1, n2, n3, n4, n5, _⟩ := bn.g6; obtain ⟨p0, p1, p2, p3, p4, p5, g0, g1, g2, g3, g4, g5, z4⟩ := bmr.g6; have hlen := hdrs_len hown) | (go_at_call 62; refine (HNm.out _).mono ?_; rintro e wx ⟨rfl, rfl⟩) | (at_builtin; refine wpList_appH1 ⟨nm, vv⟩ HUN.out HUV.out rfl rfl Tryz.underlying22 infoH rfl rfl hown (Below.refl _ _) bmr.lt ?_ ?_; (focus omega); intro v1 w8 ho1 hb1; obtain ⟨ao1, cp1, rfl⟩ : ∃ ao cp, v1 = .slice ao (H.length + 1) cp := (by obtain ⟨ao1, cp1, hv1, _⟩ := ho1.len; exact ⟨ao1, cp1, by rw [hv1]; simp⟩); have bm8 := bmr.below hb1 (Nat.lt_succ_self _); obtain ⟨q0', q1', q2', q3', q4', q5', h0, h1, h2, h3, h4, h5, z5⟩ := bm8.g6))
                    go_roundw
                    case rel =>
                      have hB9 := (hBr.trans (hb1.mono (Nat.le_succ _))).setCell (p := ⟨w2.heap.size, 4, none⟩) (Nat.le_refl _) (.slice ao1 (H.length + 1) cp1)
                      exact ⟨q + 1, i + 1, _, z, _, b, by omega, by omega, by omega, by go_num, rfl, rfl, HBZ.out, hB9, by rw [World.size_setCell]; exact z5, bm8.set_ 4 _, ho1.set (Nat.lt_succ_self _) _, by rw [List.length_append]; simp; omega, hz0, hz1, HN2.out⟩
                    case measure => simp [intOf]; omega
                · rw [hln] at HLn
                  rw [if_neg (by rw [hln]; decide)] at hk2
                  clear hln
                  obtain ⟨nn, hnn⟩ : ∃ x, x = (number vv 4096).1 := ⟨_, rfl⟩
                  obtain ⟨ne, hne⟩ : ∃ x, x = (number vv 4096).2 := ⟨_, rfl⟩
                  rw [← hnn] at HNm hk2 hnb
                  rw [← hne] at HNm hk2 hnb
                  clear hnn hne
                  by_cases hn0 : ne = 0
                  · subst hn0
                    obtain ⟨nb0, nb1⟩ := hnb rfl
                    clear hnb
                    by_cases hzz : 0 ≤ z
                    · have HP := Lib.hid (HP.out.trans (hLB.out 62 (by decide) (by rw [hk2, if_pos (.inr hzz)])))
                      obtain rfl : b = true := by rw [HBZ.out]; exact decide_eq_true hzz
                      clear hk2
                      go_wp2_with (first | (go_at_call 55; refine (HCut.out _).mono ?_; rintro e w4 ⟨rfl, hD⟩; have bmr := bmr.call hD.below; have hown := hown.below hD.below (Nat.le_refl _); have hBr := hBr.trans hD.below) | (go_at_call 57; refine (HTr.out _).mono ?_; rintro e wx ⟨rfl, rfl⟩) | (go_at_call 56; refine (HLo.out _).mono ?_; rintro e w6 ⟨rfl, hC6⟩; have bmr := bmr.call hC6; have hown := hown.below hC6 (Nat.le_refl _); have hBr := hBr.trans (hC6.mono hBr.size); obtain ⟨b2, bn, hBS⟩ := HX2.out _ hBr; obtain ⟨_, _, _, _, _, _, f0, f1, f2, f3, f4, f5, z2⟩ := b2.g6; obtain ⟨n0, n1, n2, n3, n4, n5, _⟩ := bn.g6; obtain ⟨p0, p1, p2, p3, p4, p5, g0, g1, g2, g3, g4, g5, z4⟩ := bmr.g6) | (go_at_call 58; refine (HTm.out _).mono ?_; rintro e wx ⟨rfl, rfl⟩) | (go_at_call 59; refine (HTk.out _).mono ?_; rintro e wx ⟨rfl, rfl⟩) | (go_at_call 60; refine (HVs.out _).mono ?_; rintro e wx ⟨rfl, rfl⟩) | (go_at_call 61; refine (HLn.out _).mono ?_; rintro e w7 ⟨rfl, hC7⟩; have bmr := bmr.call hC7; have hown := hown.below hC7 (Nat.le_refl _); have hBr := hBr.trans (hC7.mono hBr.size); obtain ⟨b2, bn, hBS⟩ := HX2.out _ hBr; obtain ⟨_, _, _, _, _, _, f0, f1, f2, f3, f4, f5, z2⟩ := b2.g6; obtain ⟨n0, n1, n2, n3, n4, n5, _⟩ := bn.g6; obtain ⟨p0, p1, p2, p3, p4, p5, g0, g1, g2, g3, g4, g5, z4⟩ := bmr.g6; have hlen := hdrs_len hown) | (go_at_call 62; refine (HNm.out _).mono ?_; rintro e wx ⟨rfl, rfl⟩))
                      refine any_world (R := bodyPost _ _ _ _ _) (fun w' => Blk w' w.heap.size 24 #[.string ⟨#[]⟩, .string ⟨#[]⟩, .int .i64 0, .string ⟨#[]⟩, .slice none 0 0, .string ⟨#[]⟩] ∧ Below w.heap.size w w') ⟨b2.put6, below_put6 hBS (Nat.le_refl _)⟩ ?_
                      rintro wF ⟨bF, hBF⟩
                      obtain ⟨r0, r1, r2, r3, r4, r5, _⟩ := bF.g6
                      refine bodyPost_ret (v := .tuple #[.agg #[.string ⟨#[]⟩, .string ⟨#[]⟩, .int .i64 0, .string ⟨#[]⟩, .slice none 0 0, .string ⟨#[]⟩], .int .i64 62]) (by simp [results, Tryz.results16, go_sem, r0, r1, r2, r3, r4, r5]) rfl ?_
                      rw [HP.out]
                      exact post_bad 62 hBF
                    · have HN2 := Lib.hid (hLN.out H nn (by rw [hk2, if_neg (by rintro (h | h); exact h rfl; exact hzz h)]))
                      obtain rfl : b = false := by rw [HBZ.out]; exact decide_eq_false hzz
                      clear hk2
                      go_wp2_with (first | (go_at_call 55; refine (HCut.out _).mono ?_; rintro e w4 ⟨rfl, hD⟩; have bmr := bmr.call hD.below; have hown := hown.below hD.below (Nat.le_refl _); have hBr := hBr.trans hD.below) | (go_at_call 57; refine (HTr.out _).mono ?_; rintro e wx ⟨rfl, rfl⟩) | (go_at_call 56; refine (HLo.out _).mono ?_; rintro e w6 ⟨rfl, hC6⟩; have bmr := bmr.call hC6; have hown := hown.below hC6 (Nat.le_refl _); have hBr := hBr.trans (hC6.mono hBr.size); obtain ⟨b2, bn, hBS⟩ := HX2.out _ hBr; obtain ⟨_, _, _, _, _, _, f0, f1, f2, f3, f4, f5, z2⟩ := b2.g6; obtain ⟨n0, n1, n2, n3, n4, n5, _⟩ := bn.g6; obtain ⟨p0, p1, p2, p3, p4, p5, g0, g1, g2, g3, g4, g5, z4⟩ := bmr.g6) | (go_at_call 58; refine (HTm.out _).mono ?_; rintro e wx ⟨rfl, rfl⟩) | (go_at_call 59; refine (HTk.out _).mono ?_; rintro e wx ⟨rfl, rfl⟩) | (go_at_call 60; refine (HVs.out _).mono ?_; rintro e wx ⟨rfl, rfl⟩) | (go_at_call 61; refine (HLn.out _).mono ?_; rintro e w7 ⟨rfl, hC7⟩; have bmr := bmr.call hC7; have hown := hown.below hC7 (Nat.le_refl _); have hBr := hBr.trans (hC7.mono hBr.size); obtain ⟨b2, bn, hBS⟩ := HX2.out _ hBr; obtain ⟨_, _, _, _, _, _, f0, f1, f2, f3, f4, f5, z2⟩ := b2.g6; obtain ⟨n0, n1, n2, n3, n4, n5, _⟩ := bn.g6; obtain ⟨p0, p1, p2, p3, p4, p5, g0, g1, g2, g3, g4, g5, z4⟩ := bmr.g6; have hlen := hdrs_len hown) | (go_at_call 62; refine (HNm.out _).mono ?_; rintro e wx ⟨rfl, rfl⟩))
                      go_roundw
                      case rel => exact ⟨q + 1, i + 1, H, nn, u, true, by omega, by omega, by omega, by go_num, by rw [sizeR_yes nb0], rfl, (decide_eq_true nb0).symm, hBr, Nat.succ_le_of_lt z4, bmr, hown, hH, by omega, nb1, HN2.out⟩
                      case measure => simp [intOf]; omega
                  · have HP := Lib.hid (HP.out.trans (hLB.out 62 (by decide) (by rw [hk2, if_pos (.inl hn0)])))
                    have t0 : (ne != 0) = true := by simpa using hn0
                    clear hk2 hn0 hnb
                    go_wp2_with (first | (go_at_call 55; refine (HCut.out _).mono ?_; rintro e w4 ⟨rfl, hD⟩; have bmr := bmr.call hD.below; have hown := hown.below hD.below (Nat.le_refl _); have hBr := hBr.trans hD.below) | (go_at_call 57; refine (HTr.out _).mono ?_; rintro e wx ⟨rfl, rfl⟩) | (go_at_call 56; refine (HLo.out _).mono ?_; rintro e w6 ⟨rfl, hC6⟩; have bmr := bmr.call hC6; have hown := hown.below hC6 (Nat.le_refl _); have hBr := hBr.trans (hC6.mono hBr.size); obtain ⟨b2, bn, hBS⟩ := HX2.out _ hBr; obtain ⟨_, _, _, _, _, _, f0, f1, f2, f3, f4, f5, z2⟩ := b2.g6; obtain ⟨n0, n1, n2, n3, n4, n5, _⟩ := bn.g6; obtain ⟨p0, p1, p2, p3, p4, p5, g0, g1, g2, g3, g4, g5, z4⟩ := bmr.g6) | (go_at_call 58; refine (HTm.out _).mono ?_; rintro e wx ⟨rfl, rfl⟩) | (go_at_call 59; refine (HTk.out _).mono ?_; rintro e wx ⟨rfl, rfl⟩) | (go_at_call 60; refine (HVs.out _).mono ?_; rintro e wx ⟨rfl, rfl⟩) | (go_at_call 61; refine (HLn.out _).mono ?_; rintro e w7 ⟨rfl, hC7⟩; have bmr := bmr.call hC7; have hown := hown.below hC7 (Nat.le_refl _); have hBr := hBr.trans (hC7.mono hBr.size); obtain ⟨b2, bn, hBS⟩ := HX2.out _ hBr; obtain ⟨_, _, _, _, _, _, f0, f1, f2, f3, f4, f5, z2⟩ := b2.g6; obtain ⟨n0, n1, n2, n3, n4, n5, _⟩ := bn.g6; obtain ⟨p0, p1, p2, p3, p4, p5, g0, g1, g2, g3, g4, g5, z4⟩ := bmr.g6; have hlen := hdrs_len hown) | (go_at_call 62; refine (HNm.out _).mono ?_; rintro e wx ⟨rfl, rfl⟩))
                    refine any_world (R := bodyPost _ _ _ _ _) (fun w' => Blk w' w.heap.size 24 #[.string ⟨#[]⟩, .string ⟨#[]⟩, .int .i64 0, .string ⟨#[]⟩, .slice none 0 0, .string ⟨#[]⟩] ∧ Below w.heap.size w w') ⟨b2.put6, below_put6 hBS (Nat.le_refl _)⟩ ?_
                    rintro wF ⟨bF, hBF⟩
                    obtain ⟨r0, r1, r2, r3, r4, r5, _⟩ := bF.g6
                    refine bodyPost_ret (v := .tuple #[.agg #[.string ⟨#[]⟩, .string ⟨#[]⟩, .int .i64 0, .string ⟨#[]⟩, .slice none 0 0, .string ⟨#[]⟩], .int .i64 62]) (by simp [results, Tryz.results16, go_sem, r0, r1, r2, r3, r4, r5]) rfl ?_
                    rw [HP.out]
                    exact post_bad 62 hBF
              all_goals
                have HP := Lib.hid (HP.out.trans (hLB.out 61 (by decide) (hn61 (by first | exact .inl rfl | exact .inr (.inl htk) | exact .inr (.inr hvs)))))
                rw [htk] at HTk
                rw [hvs] at HVs
                clear htk hvs hn61 hnok hnb
                go_wp2_with (first | (go_at_call 55; refine (HCut.out _).mono ?_; rintro e w4 ⟨rfl, hD⟩; have bmr := bmr.call hD.below; have hown := hown.below hD.below (Nat.le_refl _); have hBr := hBr.trans hD.below) | (go_at_call 57; refine (HTr.out _).mono ?_; rintro e wx ⟨rfl, rfl⟩) | (go_at_call 56; refine (HLo.out _).mono ?_; rintro e w6 ⟨rfl, hC6⟩; have bmr := bmr.call hC6; have hown := hown.below hC6 (Nat.le_refl _); have hBr := hBr.trans (hC6.mono hBr.size); obtain ⟨b2, bn, hBS⟩ := HX2.out _ hBr; obtain ⟨_, _, _, _, _, _, f0, f1, f2, f3, f4, f5, z2⟩ := b2.g6; obtain ⟨n0, n1, n2, n3, n4, n5, _⟩ := bn.g6; obtain ⟨p0, p1, p2, p3, p4, p5, g0, g1, g2, g3, g4, g5, z4⟩ := bmr.g6) | (go_at_call 58; refine (HTm.out _).mono ?_; rintro e wx ⟨rfl, rfl⟩) | (go_at_call 59; refine (HTk.out _).mono ?_; rintro e wx ⟨rfl, rfl⟩) | (go_at_call 60; refine (HVs.out _).mono ?_; rintro e wx ⟨rfl, rfl⟩) | (go_at_call 61; refine (HLn.out _).mono ?_; rintro e w7 ⟨rfl, hC7⟩; have bmr := bmr.call hC7; have hown := hown.below hC7 (Nat.le_refl _); have hBr := hBr.trans (hC7.mono hBr.size); obtain ⟨b2, bn, hBS⟩ := HX2.out _ hBr; obtain ⟨_, _, _, _, _, _, f0, f1, f2, f3, f4, f5, z2⟩ := b2.g6; obtain ⟨n0, n1, n2, n3, n4, n5, _⟩ := bn.g6; obtain ⟨p0, p1, p2, p3, p4, p5, g0, g1, g2, g3, g4, g5, z4⟩ := bmr.g6; have hlen := hdrs_len hown) | (go_at_call 62; refine (HNm.out _).mono ?_; rintro e wx ⟨rfl, rfl⟩))
                refine any_world (R := bodyPost _ _ _ _ _) (fun w' => Blk w' w.heap.size 24 #[.string ⟨#[]⟩, .string ⟨#[]⟩, .int .i64 0, .string ⟨#[]⟩, .slice none 0 0, .string ⟨#[]⟩] ∧ Below w.heap.size w w') ⟨b2.put6, below_put6 hBS (Nat.le_refl _)⟩ ?_
                rintro wF ⟨bF, hBF⟩
                obtain ⟨r0, r1, r2, r3, r4, r5, _⟩ := bF.g6
                refine bodyPost_ret (v := .tuple #[.agg #[.string ⟨#[]⟩, .string ⟨#[]⟩, .int .i64 0, .string ⟨#[]⟩, .slice none 0 0, .string ⟨#[]⟩], .int .i64 61]) (by simp [results, Tryz.results16, go_sem, r0, r1, r2, r3, r4, r5]) rfl ?_
                rw [HP.out]
                exact post_bad 61 hBF
            · have hle := lines_end' ts H z i (by omega) HPP.out
              have hin : ¬ ((q : Int) < (ts.length : Int) + 1) := by omega
              have hrl : rest = us (s.extract k s.size) := by rw [HRS.out, us_tail]
              have hzl : (s.extract k s.size).size = s.size - k := by rw [size_extract _ _ _ (Nat.le_refl _)]
              have hrn : (rest.length : Int) = (s.size : Int) - (k : Int) := by rw [hrl, length_us, hzl]; omega
              have hb62 := end_bad m rest H z
              have hok := end_ok m rest H z
              rw [hrn] at hb62 hok
              have hsz : 0 ≤ sizeR z ((s.size : Int) - (k : Int)) := by unfold sizeR; split <;> omega
              obtain ⟨SZ, hSZ⟩ : ∃ x, x = sizeR z ((s.size : Int) - (k : Int)) := ⟨_, rfl⟩
              rw [← hSZ] at hb62 hok hsz
              simp only [← hSZ]
              clear hSZ
              by_cases hgt : (s.size : Int) - (k : Int) < SZ
              · have HP := Lib.hid (by have := HP.out; rw [hle, hb62 hgt] at this; exact this)
                clear hle hb62 hok hrl hrn hzl
                go_wp2
                refine any_world (R := bodyPost _ _ _ _ _) (fun w' => Blk w' w.heap.size 24 #[.string ⟨#[]⟩, .string ⟨#[]⟩, .int .i64 0, .string ⟨#[]⟩, .slice none 0 0, .string ⟨#[]⟩] ∧ Below w.heap.size w w') ⟨b2.put6, below_put6 hBS (Nat.le_refl _)⟩ ?_
                rintro wF ⟨bF, hBF⟩
                obtain ⟨r0, r1, r2, r3, r4, r5, _⟩ := bF.g6
                refine bodyPost_ret (v := .tuple #[.agg #[.string ⟨#[]⟩, .string ⟨#[]⟩, .int .i64 0, .string ⟨#[]⟩, .slice none 0 0, .string ⟨#[]⟩], .int .i64 62]) (by simp [results, Tryz.results16, go_sem, r0, r1, r2, r3, r4, r5]) rfl ?_
                rw [HP.out]
                exact post_bad 62 hBF
              · have HE := Lib.hid (by have := HP.out; rw [hle, hok hgt] at this; exact this)
                have e1 : ((k : Int) + SZ).toNat = k + SZ.toNat := by omega
                have e2 : (k : Int) ≤ (k : Int) + SZ := by omega
                have e3 : (k : Int) + SZ ≤ (s.size : Int) := by omega
                have e4 : (0 : Int) ≤ (k : Int) := by omega
                obtain ⟨BD, hBD⟩ : ∃ BD, BD = s.extract k (k + SZ.toNat) := ⟨_, rfl⟩
                have HU := Lib.hid (show rest.take SZ.toNat = us BD by rw [hBD, us_extract, HRS.out, Nat.add_sub_cancel_left])
                obtain ⟨ao, cp, rfl, hfr0⟩ := hown.len
                have hfr := hown.fresh
                have hRd := hown.read
                obtain ⟨p0, p1, p2, p3, p4, p5, g0, g1, g2, g3, g4, g5, z4⟩ := bmr.g6
                have hg5 : w.heap.size ≠ (⟨w2.heap.size, 5, none⟩ : Addr).block := by show w.heap.size ≠ w2.heap.size; omega
                have hg8 : w.heap.size < w2.heap.size := by omega
                have hg6 : w.heap.size ≤ (⟨w2.heap.size, 5, none⟩ : Addr).block := by show w.heap.size ≤ w2.heap.size; omega
                have hg7 : w.heap.size < w2.heap.size + 1 := by omega
                have hr5 : RHdrs (wr.setCell ⟨w2.heap.size, 5, none⟩ (.string BD)) (.slice ao H.length cp) H := hRd.set hfr (Nat.lt_succ_self _) _
                clear hle hb62 hok hrl hrn hzl hRd
                go_wp2
                simp only [← hBD]
                refine any_world (R := bodyPost _ _ _ _ _) (fun w' => Blk w' w.heap.size 24 #[.string M, .string TG, .int .i64 X, .string RS, .slice ao H.length cp, .string BD] ∧ Below w.heap.size w w' ∧ RHdrs w' (.slice ao H.length cp) H) ⟨(b2.far hg5 _).put6, below_put6 (hBS.setCell hg6 _) (Nat.le_refl _), hr5.put6 hfr hg7⟩ ?_
                rintro wF ⟨bF, hBF, hRF⟩
                obtain ⟨r0, r1, r2, r3, r4, r5, _⟩ := bF.g6
                refine bodyPost_ret (v := .tuple #[.agg #[.string M, .string TG, .int .i64 X, .string RS, .slice ao H.length cp, .string BD], .int .i64 0]) (by simp [results, Tryz.results16, go_sem, r0, r1, r2, r3, r4, r5]) rfl ?_
                rw [HE.out]
                refine ⟨.slice ao H.length cp, ?_, hRF, hfr.mono (by omega), hBF⟩
                rw [HMV.out, HU.out, bs_us]

end Go.Proofs.YtgkilllbkljibaaGreatDoor

namespace Go.Proofs.YtgkilllbkljibaaGreatDoor
set_option linter.unusedSimpArgs false
set_option linter.unusedVariables false

structure Rqt where
  meth : List UInt8
  tgt : Uri
  branch : List UInt8
  by_ : List UInt8
  fr : Adr
  dst : Adr
  fromT : List UInt8
  toT : List UInt8
  call : List UInt8
  seq : Int
  exp : Int
  evn : List UInt8
  evp : List Prm
  contact : List Adr
  routes : List (List UInt8)
  accept : List (List UInt8)
  typ : List UInt8
  mat : List UInt8
  body : List UInt8
deriving DecidableEq
def rq0 : Rqt := ⟨[], uri0, [], [], adr0, adr0, [], [], [], 0, 0, [], [], [], [], [], [], [], []⟩
def nCall : List UInt8 := [67, 97, 108, 108, 45, 73, 68]
def nCseq : List UInt8 := [67, 83, 101, 113]
def nExp : List UInt8 := [69, 120, 112, 105, 114, 101, 115]
def nType : List UInt8 := [67, 111, 110, 116, 101, 110, 116, 45, 84, 121, 112, 101]
def nMatch : List UInt8 := [83, 73, 80, 45, 73, 102, 45, 77, 97, 116, 99, 104]
def nAccept : List UInt8 := [65, 99, 99, 101, 112, 116]
def nRecR : List UInt8 := [82, 101, 99, 111, 114, 100, 45, 82, 111, 117, 116, 101]
def nOther : List UInt8 := [88, 45, 79, 116, 104, 101, 114]
/-- the address of a header that stands once -/
def adrOf (H : List Hdr) (n : List UInt8) : Adr × Int := if (oneS H n).2 = false then (adr0, 100) else parseA (oneS H n).1
/-- what the head of a request tells: with the numbers of what is missing -/
def must3 (m : Mg) (h : Hop) (f t : Adr) : Rqt × Int :=
  if (oneS m.hdrs nCall).2 = false ∨ (oneS m.hdrs nCseq).2 = false ∨ callS (oneS m.hdrs nCall).1 = false then (rq0, 100)
  else if (seqP (oneS m.hdrs nCseq).1).2.2 ≠ 0 ∨ (seqP (oneS m.hdrs nCseq).1).2.1 ≠ m.method then (rq0, 80)
  else (⟨m.method, uri0, (branchV h).1, byV h, f, t, tagA f, tagA t, (oneS m.hdrs nCall).1, (seqP (oneS m.hdrs nCseq).1).1, -1, [], [], [], [], [], [], [], m.body⟩, 0)
def must2 (m : Mg) (h : Hop) : Rqt × Int :=
  if (adrOf m.hdrs nFrom).2 ≠ 0 then (rq0, (adrOf m.hdrs nFrom).2)
  else if (adrOf m.hdrs nTo).2 ≠ 0 then (rq0, (adrOf m.hdrs nTo).2)
  else must3 m h (adrOf m.hdrs nFrom).1 (adrOf m.hdrs nTo).1
def mustS (m : Mg) : Rqt × Int :=
  if m.method = [] then (rq0, 1)
  else if (listV (allS m.hdrs nVia)).2 ≠ 0 then (rq0, (listV (allS m.hdrs nVia)).2)
  else if (branchV ((listV (allS m.hdrs nVia)).1.headD hop0)).2 = false then (rq0, 70)
  else must2 m ((listV (allS m.hdrs nVia)).1.headD hop0)
/-- a header that may stand once: the error ahead, or its own -/
def one1 (H : List Hdr) (n : List UInt8) (e : Int) (f : List UInt8 → Int) : Int :=
  if e ≠ 0 then e else match allS H n with | [] => 0 | [x] => f x | _ => 4
def got {α : Type} (H : List Hdr) (n : List UInt8) (d : α) (f : List UInt8 → α) : α := match allS H n with | [x] => f x | _ => d
def piecesS (H : List Hdr) (n : List UInt8) : List (List UInt8) := (allS H n).flatMap fun v => (parts v 44).map trim
def firstE : List (List UInt8) → Int
  | [] => 0
  | x :: r => if (parseA x).2 ≠ 0 then (parseA x).2 else firstE r
def err0 (m : Mg) (r : Rqt) : Int := if (parseU m.target).2 ≠ 0 then (parseU m.target).2 else if r.fromT = [] then 100 else 0
def err1 (m : Mg) (r : Rqt) : Int := one1 m.hdrs nExp (err0 m r) (fun s => (timeS s).2)
def err2 (m : Mg) (r : Rqt) : Int := one1 m.hdrs nEvent (err1 m r) (fun s => (evS s).2)
def err3 (m : Mg) (r : Rqt) : Int := one1 m.hdrs nContact (err2 m r) (fun s => (listA s).2)
def err4 (m : Mg) (r : Rqt) : Int := one1 m.hdrs nType (err3 m r) (fun _ => 0)
def err5 (m : Mg) (r : Rqt) : Int := one1 m.hdrs nMatch (err4 m r) (fun s => if token s = true then 0 else 160)
def fullS (m : Mg) (r : Rqt) : Rqt :=
  { r with tgt := (parseU m.target).1, exp := got m.hdrs nExp (-1) (fun s => (timeS s).1), evn := got m.hdrs nEvent [] (fun s => (evS s).1.1), evp := got m.hdrs nEvent [] (fun s => (evS s).1.2), contact := got m.hdrs nContact [] (fun s => (listA s).1), typ := got m.hdrs nType [] typeOf, mat := got m.hdrs nMatch [] id, routes := piecesS m.hdrs nRecR, accept := piecesS m.hdrs nAccept }
def read2 (m : Mg) (r : Rqt) : Rqt × Int :=
  if err5 m r ≠ 0 then (rq0, err5 m r)
  else if firstE (piecesS m.hdrs nRecR) ≠ 0 then (rq0, firstE (piecesS m.hdrs nRecR))
  else if 16 < (piecesS m.hdrs nRecR).length ∨ 16 < (piecesS m.hdrs nAccept).length then (rq0, 4)
  else (fullS m r, 0)
def readS (m : Mg) : Rqt × Int := if (mustS m).2 ≠ 0 then (rq0, (mustS m).2) else read2 m (mustS m).1

/-! ### The plain laws -/

theorem must_err (m : Mg) (h : (mustS m).2 ≠ 0) : (mustS m).1 = rq0 := by
  revert h
  unfold mustS must2 must3
  repeat' split
  all_goals first | (intro; rfl) | (intro h; exact absurd rfl h)
theorem read_err (m : Mg) (h : (readS m).2 ≠ 0) : (readS m).1 = rq0 := by
  revert h
  unfold readS read2
  repeat' split
  all_goals first | (intro; rfl) | (intro h; exact absurd rfl h)
/-- what a request has that is read -/
theorem must_ok (m : Mg) (h : (mustS m).2 = 0) : (mustS m).1.meth = m.method ∧ (mustS m).1.body = m.body ∧ (mustS m).1.seq = (seqP (oneS m.hdrs nCseq).1).1 ∧ (seqP (oneS m.hdrs nCseq).1).2.2 = 0 := by
  revert h
  unfold mustS
  split
  · intro h; cases h
  split
  · intro h; exact absurd h ‹_›
  split
  · intro h; cases h
  unfold must2
  split
  · intro h; exact absurd h ‹_›
  split
  · intro h; exact absurd h ‹_›
  unfold must3
  split
  · intro h; cases h
  split
  · intro h; cases h
  rename_i h9
  intro _
  refine ⟨rfl, rfl, rfl, ?_⟩
  by_cases h0 : (seqP (oneS m.hdrs nCseq).1).2.2 = 0
  · exact h0
  · exact absurd (Or.inl h0) h9
theorem one1_e {H : List Hdr} {n : List UInt8} {e : Int} {f : List UInt8 → Int} (h : one1 H n e f = 0) : e = 0 := by
  unfold one1 at h
  by_cases he : e = 0
  · exact he
  · rw [if_pos he] at h; exact absurd h he
theorem read_ok (m : Mg) (h : (readS m).2 = 0) : (mustS m).2 = 0 ∧ (readS m).1 = fullS m (mustS m).1 ∧ (mustS m).1.fromT ≠ [] := by
  have h0 : (mustS m).2 = 0 := by
    by_cases h1 : (mustS m).2 = 0
    · exact h1
    · unfold readS at h; rw [if_pos h1] at h; exact absurd h h1
  have e : readS m = read2 m (mustS m).1 := by unfold readS; rw [if_neg (by simp [h0])]
  rw [e] at h ⊢
  refine ⟨h0, ?_, ?_⟩
  · revert h
    unfold read2
    split
    · intro h; exact absurd h ‹_›
    split
    · intro h; exact absurd h ‹_›
    split
    · intro h; cases h
    · intro _; rfl
  · have h5 : err5 m (mustS m).1 = 0 := by
      by_cases h1 : err5 m (mustS m).1 = 0
      · exact h1
      · unfold read2 at h; rw [if_pos h1] at h; exact absurd h h1
    have h00 : err0 m (mustS m).1 = 0 := one1_e (one1_e (one1_e (one1_e (one1_e h5))))
    intro hf
    unfold err0 at h00
    rw [if_pos hf] at h00
    split at h00
    · exact absurd h00 ‹_›
    · cases h00
theorem all_ins (H : List Hdr) (k : Nat) (v n : List UInt8) (h : same nOther n = false) : allS (H.take k ++ ⟨nOther, v⟩ :: H.drop k) n = allS H n := by
  unfold allS
  rw [List.filter_append, List.filter_cons, if_neg (by simp [h]), ← List.filter_append, List.take_append_drop]
theorem one_ins (H : List Hdr) (k : Nat) (v n : List UInt8) (h : same nOther n = false) : oneS (H.take k ++ ⟨nOther, v⟩ :: H.drop k) n = oneS H n := by
  unfold oneS
  rw [all_ins H k v n h]
def insM (m : Mg) (k : Nat) (v : List UInt8) : Mg := { m with hdrs := m.hdrs.take k ++ ⟨nOther, v⟩ :: m.hdrs.drop k }
theorem must_ins (m : Mg) (k : Nat) (v : List UInt8) : mustS (insM m k v) = mustS m := by
  unfold mustS must2 must3 adrOf insM
  simp only [all_ins m.hdrs k v nVia (by decide), one_ins m.hdrs k v nFrom (by decide), one_ins m.hdrs k v nTo (by decide), one_ins m.hdrs k v nCall (by decide), one_ins m.hdrs k v nCseq (by decide)]
theorem read_ins (m : Mg) (k : Nat) (v : List UInt8) : readS (insM m k v) = readS m := by
  unfold readS
  rw [must_ins]
  unfold read2 err5 err4 err3 err2 err1 err0 fullS one1 got piecesS insM
  simp only [all_ins m.hdrs k v nExp (by decide), all_ins m.hdrs k v nEvent (by decide), all_ins m.hdrs k v nContact (by decide), all_ins m.hdrs k v nType (by decide), all_ins m.hdrs k v nMatch (by decide), all_ins m.hdrs k v nAccept (by decide), all_ins m.hdrs k v nRecR (by decide)]
/-- what can be read whole can be answered, and both tell the same -/
theorem read_more (m : Mg) (h : (readS m).2 = 0) : (mustS m).2 = 0 ∧ (readS m).1.meth = (mustS m).1.meth ∧ (readS m).1.branch = (mustS m).1.branch ∧ (readS m).1.call = (mustS m).1.call ∧ (readS m).1.seq = (mustS m).1.seq ∧ (readS m).1.fromT = (mustS m).1.fromT ∧ (readS m).1.fromT ≠ [] ∧ (readS m).1.toT = (mustS m).1.toT ∧ (readS m).1.body = m.body := by
  obtain ⟨h0, e, hf⟩ := read_ok m h
  rw [e]
  exact ⟨h0, rfl, rfl, rfl, rfl, rfl, hf, rfl, (must_ok m h0).2.1⟩

end Go.Proofs.YtgkilllbkljibaaGreatDoor

namespace Go.Proofs.YtgkilllbkljibaaGreatDoor
set_option linter.unusedSimpArgs false
set_option linter.unusedVariables false

section
open Go.RowKit

theorem fieldsGo_bd : ∀ (Ps : List (List UInt8)) (L M : List Prm), (∀ p ∈ L, p.name.length ≤ 64 ∧ p.value.length ≤ 64) → fieldsGo L Ps = some M → ∀ p ∈ M, p.name.length ≤ 64 ∧ p.value.length ≤ 64
  | [], L, M, hL, h => by rw [fieldsGo] at h; injection h with h; rw [← h]; exact hL
  | x :: r, L, M, hL, h => by
    rw [fieldsGo] at h
    cases hf : field L x with
    | none => rw [hf] at h; cases h
    | some q =>
      rw [hf] at h
      refine fieldsGo_bd r (L ++ [q]) M ?_ h
      intro p hp
      rcases List.mem_append.1 hp with h' | h'
      · exact hL p h'
      · rw [List.mem_singleton.1 h']
        unfold field fieldOf at hf
        split at hf
        · split at hf
          · have := chk_len hf; rw [this.1]; exact this.2
          · cases hf
        · split at hf
          · cases hf
          · have := chk_len hf; rw [this.1]; exact this.2
theorem fieldsS_bd (Ps : List (List UInt8)) : ∀ p ∈ (fieldsS Ps).1, p.name.length ≤ 64 ∧ p.value.length ≤ 64 := by
  unfold fieldsS
  split
  · intro p hp; cases hp
  · cases h : fieldsGo [] Ps with
    | none => intro p hp; cases hp
    | some M => exact fieldsGo_bd Ps [] M (fun p hp => by cases hp) h
end

section
open Go.RowKit

end

section
open Go.RowKit

end

end Go.Proofs.YtgkilllbkljibaaGreatDoor

namespace Go.Proofs.YtgkilllbkljibaaGreatDoor
set_option linter.unusedSimpArgs false
set_option linter.unusedVariables false

theorem textGo_bdR : ∀ (L done : List Prm) (s : List UInt8), textGo done L = some s → ∀ p ∈ L, p.name.length ≤ 64 ∧ p.value.length ≤ 64
  | [], _, _, _, p, hp => by cases hp
  | q :: r, done, s, h, p, hp => by
    rw [textGo] at h
    split at h
    · rename_i hm
      cases hq : textGo (done ++ [q]) r with
      | none => rw [hq] at h; cases h
      | some t =>
        rcases List.mem_cons.1 hp with rfl | hp
        · exact mayS_len hm
        · exact textGo_bdR r _ t hq p hp
    · cases h
theorem hop_bdR (v : Hop) (h : checkV v = 0) : v.host.length ≤ 64 ∧ 0 ≤ v.port ∧ v.port ≤ 65535 ∧ ∀ p ∈ v.ps, p.name.length ≤ 64 ∧ p.value.length ≤ 64 := by
  obtain ⟨h1, h2, h3, h4⟩ := check_parts v h
  exact ⟨(host_low _ h1).2.2, h2, h3, textGo_bdR _ _ _ (textS_ok v.ps h4).2⟩
theorem hops_bdR : ∀ (xs : List (List UInt8)) (L : List Hop), (∀ v ∈ L, checkV v = 0) → ∀ v ∈ (hopsGo L xs).1, checkV v = 0
  | [], L, h => h
  | x :: r, L, h => by
    rw [hopsGo]
    split
    · intro v hv; cases hv
    split
    · intro v hv; cases hv
    rename_i h1 _
    refine hops_bdR r _ fun v hv => ?_
    rcases List.mem_append.1 hv with hv | hv
    · exact h v hv
    · rw [List.mem_singleton.1 hv]
      refine (parseV_ok x).1 ?_
      by_cases h0 : (parseV x).2 = 0
      · exact h0
      · exact absurd h0 h1
theorem listV_bdR (vals : List (List UInt8)) (h : (listV vals).2 = 0) : ∃ v r, (listV vals).1 = v :: r ∧ checkV v = 0 := by
  have hb := hops_bdR (vals.flatMap fun v => parts v 44) [] (fun v hv => by cases hv)
  unfold listV at h ⊢
  split
  · rename_i h1; rw [if_pos h1] at h; exact absurd h h1
  rename_i h1
  split
  · rename_i h2; rw [if_neg h1, if_pos h2] at h; cases h
  rename_i h2
  revert hb h2
  generalize (hopsGo [] (vals.flatMap fun v => parts v 44)).1 = L
  intro hb h2
  cases L with
  | nil => exact absurd rfl h2
  | cons v r => exact ⟨v, r, rfl, hb v (List.mem_cons_self ..)⟩
def PrB (L : List Prm) : Prop := ∀ p ∈ L, p.name.length ≤ 64 ∧ p.value.length ≤ 64
def UrB (u : Uri) : Prop := u.scheme.length ≤ 4 ∧ u.user.length ≤ 64 ∧ u.host.length ≤ 64 ∧ 0 ≤ u.port ∧ u.port ≤ 65535 ∧ PrB u.ps ∧ PrB u.hs
def AdB (a : Adr) : Prop := a.disp.length ≤ 64 ∧ UrB a.uri ∧ PrB a.ps
theorem PrB.nil : PrB [] := fun p hp => by cases hp
theorem UrB.zero : UrB uri0 := ⟨Nat.zero_le _, Nat.zero_le _, Nat.zero_le _, Int.le_refl _, by decide, PrB.nil, PrB.nil⟩
theorem AdB.zero : AdB adr0 := ⟨Nat.zero_le _, UrB.zero, PrB.nil⟩
theorem uri_bdR (u : Uri) (h : checkU u = 0) : UrB u := by
  obtain ⟨c1, c2, c3, c4, c5, c6, c7, _⟩ := checkU_parts _ h
  exact ⟨(scheme_facts _ c1).2.2.1, c2, (host_low _ c3).2.2, c4, c5, fun p hp => ⟨((listU_ok c6).2 p hp).2.1, ((listU_ok c6).2 p hp).2.2.1⟩, fun p hp => ⟨((listU_ok c7).2 p hp).2.1, ((listU_ok c7).2 p hp).2.2.1⟩⟩
theorem adr_bdR (a : Adr) (h : checkA a = 0) : AdB a := by
  obtain ⟨_, h2, h3, h4⟩ := checkA_parts _ h
  exact ⟨h2, uri_bdR _ h3, textGo_bdR _ _ _ (textS_ok a.ps h4).2⟩
theorem parseA_bdR (l : List UInt8) : AdB (parseA l).1 := by
  by_cases h : (parseA l).2 = 0
  · exact adr_bdR _ ((parseA_ok l).1 h)
  · rw [(parseA_ok l).2 h]; exact AdB.zero
theorem parseU_bdR (l : List UInt8) : UrB (parseU l).1 := by
  by_cases h : (parseU l).2 = 0
  · exact uri_bdR _ ((parseU_ok l).1 h)
  · rw [(parseU_ok l).2 h]; exact UrB.zero
theorem adrs_bdR : ∀ (xs : List (List UInt8)) (L : List Adr), (∀ a ∈ L, AdB a) → ∀ a ∈ (adrsGo L xs).1, AdB a
  | [], L, h => h
  | x :: r, L, h => by
    rw [adrsGo]
    split
    · intro v hv; cases hv
    · refine adrs_bdR r _ fun v hv => ?_
      rcases List.mem_append.1 hv with hv | hv
      · exact h v hv
      · rw [List.mem_singleton.1 hv]; exact parseA_bdR x
theorem listA_bdR (l : List UInt8) : ∀ a ∈ (listA l).1, AdB a := by
  unfold listA
  split
  · intro a ha; cases ha
  · exact adrs_bdR _ _ (fun a ha => by cases ha)
theorem evS_bdR (l : List UInt8) : PrB (evS l).1.2 := by
  unfold evS
  split
  · exact fieldsS_bd _
  · exact PrB.nil

end Go.Proofs.YtgkilllbkljibaaGreatDoor

namespace Go.Proofs.YtgkilllbkljibaaGreatDoor
set_option linter.unusedSimpArgs false
set_option linter.unusedVariables false
open Go.ChangeShapes Go.WideShapes Go.ChangeAt Go.RowKit

theorem addr_of_cell {w : World} {a : Addr} {v : Value} (h : w.cell? a = some v) : a = ⟨a.block, a.off, none⟩ ∧ a.block < w.heap.size := by
  obtain ⟨b, o, sp⟩ := a
  cases sp with
  | none =>
    refine ⟨rfl, ?_⟩
    rcases Nat.lt_or_ge b w.heap.size with hlt | hge
    · exact hlt
    · simp [World.cell?, Array.getElem?_eq_none hge] at h
  | some x =>
    exfalso
    simp only [World.cell?] at h
    split at h <;> simp at h
theorem add_at (b o i : Nat) : (⟨b, o, none⟩ : Addr).add i = ⟨b, o + i, none⟩ := by unfold Addr.add; split <;> simp_all
theorem bulk_mem {H : Type} : ∀ (l : List (DataW H)) (d : DataW H), d ∈ l → Rows.uptoBulk d ≤ Rows.uptoBulkAll l
  | x :: r, d, h => by
    rw [Rows.uptoBulkAll]
    rcases List.mem_cons.1 h with rfl | h
    · exact Nat.le_add_right _ _
    · have := bulk_mem r d h; omega
theorem bulk_len {H : Type} : ∀ (l : List (DataW H)), (∀ d ∈ l, 1 ≤ Rows.uptoBulk d) → l.length ≤ Rows.uptoBulkAll l
  | [], _ => Nat.zero_le _
  | x :: r, h => by
    rw [Rows.uptoBulkAll, List.length_cons]
    have := h x (List.mem_cons_self ..)
    have := bulk_len r (fun d hd => h d (List.mem_cons_of_mem _ hd))
    omega
section
variable {H : Type} {enc : TypeId × Value → H} {P : Program} {w : World} {base : Nat} {spare : Nat → Bool} {held : Bool}
end

end Go.Proofs.YtgkilllbkljibaaGreatDoor

namespace Go.Proofs.YtgkilllbkljibaaGreatDoor
set_option linter.unusedSimpArgs false
set_option linter.unusedVariables false
open Go.ChangeShapes Go.WideShapes Go.ChangeAt Go.RowKit Go.Deep Go.Joins

/-- what a cell tells: a string's bytes -/
def rdSH (w : World) (a : Addr) : List UInt8 := match w.cell? a with | some (.string s) => us s | _ => []
def rdH (w : World) (b off i : Nat) : Hdr := ⟨rdSH w ⟨b, off + i * 2, none⟩, rdSH w ⟨b, off + i * 2 + 1, none⟩⟩
theorem array6 {α : Type} {cs : Array α} (h : cs.size = 6) : ∃ c0 c1 c2 c3 c4 c5, cs = #[c0, c1, c2, c3, c4, c5] := by
  obtain ⟨l⟩ := cs
  match l, h with
  | [c0, c1, c2, c3, c4, c5], _ => exact ⟨c0, c1, c2, c3, c4, c5, rfl⟩

section
variable {H : Type} {enc : TypeId × Value → H} {P : Program} {w : World} {base : Nat} {spare : Nat → Bool} {held : Bool}
theorem open_hdrs {t e : TypeId} {fuel : Nat} {v : Value} {x : DataW H × List MemPlace} {f0 f1 : Field} (ht : P.underlying t = some (.slice e)) (he : P.underlying e = some (.struct #[f0, f1]))
    (hone : oneCellFields P #[f0, f1] = true) (hC : P.cellsOf e = 2) (h0 : P.underlying f0.type = some .string) (h1 : P.underlying f1.type = some .string)
    (h : DataW.trod enc P w base spare held fuel t [v] = some x) :
    ∃ L, RHdrs w v L ∧ (∀ p ∈ L, p.name.length + p.value.length + 2 ≤ Rows.uptoBulk x.1) ∧ L.length ≤ Rows.uptoBulk x.1 := by
  rcases open_slice ht h with ⟨hcs, hx⟩ | ⟨a, len, cap, m, n, D, Pl, hcs, hb, hl, hm, hmm, hx, hi⟩
  · simp only [List.cons.injEq, and_true] at hcs
    subst hcs hx
    exact ⟨[], .inl ⟨⟨_, _, rfl⟩, rfl⟩, ⟨(fun p hp => by simp at hp), Nat.zero_le _⟩⟩
  · simp only [List.cons.injEq, and_true] at hcs
    subst hcs
    have hlm : len ≤ m := by rw [hmm]; split <;> omega
    have each : ∀ i, i < m → ∃ (s0 s1 : ByteArray), w.cell? (a.add (i * 2)) = some (.string s0) ∧ w.cell? (a.add (i * 2 + 1)) = some (.string s1) ∧
        Rows.uptoBulk (D i) = (s0.size + 1) + ((s1.size + 1) + 0) + 1 := by
      intro i him
      obtain ⟨cs', hc, ht'⟩ := hi i him
      rw [hC] at hc
      obtain ⟨ys, n', hn', hy, hlen, hyl, hf⟩ := DataW.trod_struct he ht'
      obtain ⟨_, hcl, hat⟩ := World.cells?_some hc
      simp only [Prod.mk.injEq] at hy
      have part : ∀ (j : Nat) (f : Field), (#[f0, f1] : Array Field)[j]? = some f → ∃ (v : Value) (y : DataW H × List MemPlace), w.cell? (a.add (i * 2 + j)) = some v ∧ ys[j]? = some y ∧ DataW.trod enc P w base spare held n' f.type [v] = some y := by
        intro j f hj
        obtain ⟨ho, hk⟩ := hone_of hone j f hj
        have hjl : j < 2 := (Array.getElem?_eq_some_iff.1 hj).1
        have hcell := hat j hjl
        have hv : cs'[j]? = some (cs'[j]'(by omega)) := List.getElem?_eq_getElem (by omega)
        have h1 := hf j f hj
        rw [ho, hk] at h1
        have hone' : (cs'.drop j).take 1 = [cs'[j]'(by omega)] := by
          rw [List.drop_eq_getElem_cons (by omega)]; rfl
        rw [hone'] at h1
        have hys : ys[j]? = some (ys[j]'(by rw [hyl]; exact hjl)) := List.getElem?_eq_getElem (by rw [hyl]; exact hjl)
        refine ⟨_, _, ?_, hys, h1.trans hys⟩
        rw [add_add] at hcell
        rw [hcell, hv]
      obtain ⟨v0, y0, c0, e0, t0⟩ := part 0 f0 rfl
      obtain ⟨v1, y1, c1, e1, t1⟩ := part 1 f1 rfl
      obtain ⟨s0, g0, rfl, _⟩ := DataW.trod_string h0 t0
      obtain ⟨s1, g1, rfl, _⟩ := DataW.trod_string h1 t1
      simp only [List.cons.injEq, and_true] at g0 g1
      subst g0 g1
      refine ⟨s0, s1, c0, c1, ?_⟩
      have hys : ys = [(.lit (.string s0.data.toList), []), (.lit (.string s1.data.toList), [])] := by
        match ys, hyl, e0, e1 with
        | [z0, z1], _, e0, e1 =>
          simp at e0 e1
          rw [e0, e1]
      rw [hy.1, hys]
      show Rows.uptoBulk (DataW.agg [.lit (.string s0.data.toList), .lit (.string s1.data.toList)]) = _
      simp only [Rows.uptoBulk, Rows.uptoBulkAll, Array.length_toList]
      rfl
    rw [hx]
    rcases Nat.eq_zero_or_pos len with hz | hz
    · subst hz
      exact ⟨[], .inl ⟨⟨_, _, rfl⟩, rfl⟩, ⟨(fun p hp => by simp at hp), Nat.zero_le _⟩⟩
    · obtain ⟨s0, s1, c0, _⟩ := each 0 (by omega)
      rw [Nat.zero_mul, show a.add 0 = a from rfl] at c0
      obtain ⟨ha, hblt⟩ := addr_of_cell c0
      obtain ⟨ab, ao, asp⟩ := a
      simp only [Addr.mk.injEq, true_and] at ha
      subst ha
      have hF : ∀ i, i < len → w.cell? ⟨ab, ao + i * 2, none⟩ = some (sv (rdH w ab ao i).name) ∧ w.cell? ⟨ab, ao + i * 2 + 1, none⟩ = some (sv (rdH w ab ao i).value) ∧
          (rdH w ab ao i).name.length + (rdH w ab ao i).value.length + 3 ≤ Rows.uptoBulk (D i) := by
        intro i hil
        obtain ⟨s0, s1, c0, c1, hbk⟩ := each i (by omega)
        rw [add_at] at c0 c1
        rw [← Nat.add_assoc] at c1
        unfold rdH rdSH sv
        rw [c0, c1, hbk]
        simp only [bs_us, length_us]
        exact ⟨trivial, trivial, by omega⟩
      refine ⟨(List.range len).map (rdH w ab ao), .inr ⟨ab, ao, cap, by rw [List.length_map, List.length_range], by rw [List.length_map, List.length_range]; exact hl, hm, hblt, fun j hj => ?_⟩, ?_, ?_⟩
      · rw [List.length_map, List.length_range] at hj
        rw [List.getElem_map, List.getElem_range]
        exact ⟨(hF j hj).1, (hF j hj).2.1⟩
      · intro p hp
        obtain ⟨i, hi', rfl⟩ := List.mem_map.1 hp
        have hil := List.mem_range.1 hi'
        have h3 := (hF i hil).2.2
        have h4 := bulk_mem ((List.range len).map D) (D i) (List.mem_map.2 ⟨i, hi', rfl⟩)
        rw [Rows.uptoBulk]; omega
      · rw [List.length_map, List.length_range, Rows.uptoBulk]
        have h5 := bulk_len ((List.range len).map D) (fun d hd => by
          obtain ⟨i, hi', rfl⟩ := List.mem_map.1 hd
          have := (hF i (List.mem_range.1 hi')).2.2
          omega)
        rw [List.length_map, List.length_range] at h5
        omega

theorem open_agg6 {r : Reach} {b0 : Nat} {t : TypeId} {f0 f1 f2 f3 f4 f5 : Field} {v : Value} {d : DataW H} {p : List MemPlace} (hs : P.underlying t = some (.struct #[f0, f1, f2, f3, f4, f5])) (hone : oneCellFields P #[f0, f1, f2, f3, f4, f5] = true) (hC : P.cellsOf t = 6)
    (hv : Value.okWide P w r b0 t v) (h : DataW.Trod enc P w base spare held t v d p) :
    ∃ (v0 v1 v2 v3 v4 v5 : Value) (y0 y1 y2 y3 y4 y5 : DataW H × List MemPlace) (n : Nat), v = .agg #[v0, v1, v2, v3, v4, v5] ∧ d = .agg [y0.1, y1.1, y2.1, y3.1, y4.1, y5.1] ∧
      DataW.trod enc P w base spare held n f0.type [v0] = some y0 ∧ DataW.trod enc P w base spare held n f1.type [v1] = some y1 ∧ DataW.trod enc P w base spare held n f2.type [v2] = some y2 ∧ DataW.trod enc P w base spare held n f3.type [v3] = some y3 ∧
      DataW.trod enc P w base spare held n f4.type [v4] = some y4 ∧ DataW.trod enc P w base spare held n f5.type [v5] = some y5 := by
  obtain ⟨cs, rfl, hsz⟩ := okWide_struct hs hv
  obtain ⟨c0, c1, c2, c3, c4, c5, rfl⟩ := array6 (hsz.trans hC)
  obtain ⟨fuel, hf⟩ := h
  obtain ⟨xs, n, _, hx, hl, hlen, hf⟩ := DataW.trod_struct hs hf
  obtain ⟨o0, k0⟩ := hone_of hone 0 f0 rfl
  obtain ⟨o1, k1⟩ := hone_of hone 1 f1 rfl
  obtain ⟨o2, k2⟩ := hone_of hone 2 f2 rfl
  obtain ⟨o3, k3⟩ := hone_of hone 3 f3 rfl
  obtain ⟨o4, k4⟩ := hone_of hone 4 f4 rfl
  obtain ⟨o5, k5⟩ := hone_of hone 5 f5 rfl
  have g0 := hf 0 f0 rfl
  have g1 := hf 1 f1 rfl
  have g2 := hf 2 f2 rfl
  have g3 := hf 3 f3 rfl
  have g4 := hf 4 f4 rfl
  have g5 := hf 5 f5 rfl
  clear hf hone
  match xs, hlen with
  | [y0, y1, y2, y3, y4, y5], _ =>
    simp only [Prod.mk.injEq] at hx
    exact ⟨c0, c1, c2, c3, c4, c5, y0, y1, y2, y3, y4, y5, n, rfl, hx.1, by simpa [Value.cells, o0, k0] using g0, by simpa [Value.cells, o1, k1] using g1, by simpa [Value.cells, o2, k2] using g2, by simpa [Value.cells, o3, k3] using g3, by simpa [Value.cells, o4, k4] using g4, by simpa [Value.cells, o5, k5] using g5⟩
/-- a message, by value -/
theorem open_msg {t : TypeId} {f0 f1 f2 f3 f4 f5 : Field} {v : Value} {d : DataW H} {p : List MemPlace} {r : Reach} {b0 : Nat} {e : TypeId} {g0 g1 : Field} (hs : P.underlying t = some (.struct #[f0, f1, f2, f3, f4, f5])) (hone : oneCellFields P #[f0, f1, f2, f3, f4, f5] = true) (hC : P.cellsOf t = 6)
    (h0 : P.underlying f0.type = some .string) (h1 : P.underlying f1.type = some .string) (h2 : P.underlying f2.type = some (.int .i64)) (h3 : P.underlying f3.type = some .string) (h4 : P.underlying f4.type = some (.slice e)) (h5 : P.underlying f5.type = some .string)
    (he : P.underlying e = some (.struct #[g0, g1])) (hone' : oneCellFields P #[g0, g1] = true) (hC' : P.cellsOf e = 2) (k0 : P.underlying g0.type = some .string) (k1 : P.underlying g1.type = some .string)
    (hv : Value.okWide P w r b0 t v) (h : DataW.Trod enc P w base spare held t v d p) :
    ∃ (M T : ByteArray) (x : Int) (R : ByteArray) (u : Value) (B : ByteArray) (F : List Hdr), v = .agg #[.string M, .string T, .int .i64 x, .string R, u, .string B] ∧ (Lit.int .i64 x).wf = true ∧ RHdrs w u F ∧
      M.size + T.size + R.size + B.size ≤ Rows.uptoBulk d ∧ (∀ p ∈ F, p.name.length ≤ Rows.uptoBulk d ∧ p.value.length ≤ Rows.uptoBulk d) ∧ F.length ≤ Rows.uptoBulk d := by
  obtain ⟨v0, v1, v2, v3, v4, v5, y0, y1, y2, y3, y4, y5, n, rfl, rfl, q0, q1, q2, q3, q4, q5⟩ := open_agg6 hs hone hC hv h
  obtain ⟨M, e0, rfl, _⟩ := DataW.trod_string h0 q0
  obtain ⟨T, e1, rfl, _⟩ := DataW.trod_string h1 q1
  obtain ⟨x, e2, rfl, hw⟩ := DataW.trod_int h2 q2
  obtain ⟨R, e3, rfl, _⟩ := DataW.trod_string h3 q3
  obtain ⟨F, hF, hb, hn⟩ := open_hdrs h4 he hone' hC' k0 k1 q4
  obtain ⟨B, e5, rfl, _⟩ := DataW.trod_string h5 q5
  simp only [List.cons.injEq, and_true] at e0 e1 e2 e3 e5
  subst e0 e1 e2 e3 e5
  have hd : Rows.uptoBulk (DataW.agg [(.lit (.string M.data.toList) : DataW H), .lit (.string T.data.toList), .lit (.int .i64 x), .lit (.string R.data.toList), y4.1, .lit (.string B.data.toList)]) =
      (M.size + 1) + ((T.size + 1) + (1 + ((R.size + 1) + (Rows.uptoBulk y4.1 + ((B.size + 1) + 0))))) + 1 := by
    simp only [Rows.uptoBulk, Rows.uptoBulkAll, Array.length_toList]; rfl
  refine ⟨M, T, x, R, v4, B, F, rfl, hw, hF, ?_, ?_, ?_⟩
  · rw [hd]; omega
  · intro p hp
    have := hb p hp
    rw [hd]; omega
  · rw [hd]; omega
end

end Go.Proofs.YtgkilllbkljibaaGreatDoor

