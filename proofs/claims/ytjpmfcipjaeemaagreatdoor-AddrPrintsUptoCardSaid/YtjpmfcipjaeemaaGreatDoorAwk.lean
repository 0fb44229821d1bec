/-
  rosterlaw05.awake.
-/
import Derived.Test.YtjpmfcipjaeemaaGreatDoorApa
import Derived.Test.YtjpmfcipjaeemaaGreatDoorSme
namespace Go.Proofs.YtjpmfcipjaeemaaGreatDoor
set_option linter.unusedSimpArgs false
set_option linter.unusedVariables false
open Go.RowKit

def lrP : Prm := ⟨[108, 114], [], false⟩
def tgP : Prm := ⟨[116, 97, 103], [49], true⟩
theorem ex5_1 : parseA [66, 111, 98, 32, 32, 66, 32, 60, 115, 105, 112, 58, 98, 64, 99, 59, 108, 114, 62, 59, 116, 97, 103, 61, 49] = ((⟨[66, 111, 98, 32, 66], ⟨[115, 105, 112], [98], [99], 0, [lrP], []⟩, [tgP]⟩ : Adr), (0 : Int)) := by decide +kernel
theorem ex5_2 : parseA [115, 105, 112, 58, 98, 64, 99, 59, 116, 97, 103, 61, 49] = ((⟨[], ⟨[115, 105, 112], [98], [99], 0, [], []⟩, [tgP]⟩ : Adr), (0 : Int)) := by decide +kernel
theorem ex5_3 : parseA [115, 105, 112, 58, 98, 64, 99, 63, 120, 61, 49] = ((⟨[], ⟨[], [], [], 0, [], []⟩, []⟩ : Adr), (50 : Int)) := by decide +kernel
theorem ex5_t : (value [tgP] nTag).1 = [49] := by decide +kernel
theorem tgP_bd : ∀ p ∈ [tgP], p.name.length ≤ 4294967280 := by intro p hp; rw [List.mem_singleton.1 hp]; decide

set_option maxRecDepth 100000 in
set_option maxHeartbeats 6400000 in
theorem awake_c (w : World) (hm : Ml w) : Calls Tryz.prog 4 #[] w fun e w' => e = .returned (.bool true) ∧ Below w.heap.size w w' := by
  have HM := Lib.hid hm
  clear hm
  have H1 := Lib.hid (fun wx hx => parseA_c ⟨#[66, 111, 98, 32, 32, 66, 32, 60, 115, 105, 112, 58, 98, 64, 99, 59, 108, 114, 62, 59, 116, 97, 103, 61, 49]⟩ (by decide) wx hx)
  unfold AdrPost at H1
  rw [show us ⟨#[66, 111, 98, 32, 32, 66, 32, 60, 115, 105, 112, 58, 98, 64, 99, 59, 108, 114, 62, 59, 116, 97, 103, 61, 49]⟩ = [66, 111, 98, 32, 32, 66, 32, 60, 115, 105, 112, 58, 98, 64, 99, 59, 108, 114, 62, 59, 116, 97, 103, 61, 49] from rfl, ex5_1] at H1
  dsimp only at H1
  unfold sv bs at H1
  have H2 := Lib.hid (fun wx hx => parseA_c ⟨#[115, 105, 112, 58, 98, 64, 99, 59, 116, 97, 103, 61, 49]⟩ (by decide) wx hx)
  unfold AdrPost at H2
  rw [show us ⟨#[115, 105, 112, 58, 98, 64, 99, 59, 116, 97, 103, 61, 49]⟩ = [115, 105, 112, 58, 98, 64, 99, 59, 116, 97, 103, 61, 49] from rfl, ex5_2] at H2
  dsimp only at H2
  unfold sv bs at H2
  have H3 := Lib.hid (fun wx hx => parseA_c ⟨#[115, 105, 112, 58, 98, 64, 99, 63, 120, 61, 49]⟩ (by decide) wx hx)
  unfold AdrPost at H3
  rw [show us ⟨#[115, 105, 112, 58, 98, 64, 99, 63, 120, 61, 49]⟩ = [115, 105, 112, 58, 98, 64, 99, 63, 120, 61, 49] from rfl, ex5_3] at H3
  dsimp only at H3
  unfold sv bs at H3
  go_enter Tryz.func4, Tryz.ntmps4
  have hZ : Below w.heap.size w w := Below.refl _ _
  go_upto_region 2 with (go_at_call 11; refine (H1.out _ (HM.out.below hZ)).mono ?_; rintro e x1 ⟨u1, u2, u3, rfl, k1, k2, k3, _, _, _, hB⟩; obtain ⟨a1, ac1, rfl, _, _⟩ := k1.form; obtain ⟨a2, ac2, rfl, _, _⟩ := k2.form; obtain ⟨a3, ac3, rfl, _, _⟩ := k3.form; replace k1 : RPrms x1 (.slice a1 1 ac1) [lrP] := k1; replace k2 : RPrms x1 (.slice a2 0 ac2) [] := k2; replace k3 : RPrms x1 (.slice a3 1 ac3) [tgP] := k3)
  have hW : Below w.heap.size w (x1.alloc (.cells #[.string ⟨#[66, 111, 98, 32, 66]⟩, .string ⟨#[115, 105, 112]⟩, .string ⟨#[98]⟩, .string ⟨#[99]⟩, .int .i64 0, .slice a1 1 ac1, .slice a2 0 ac2, .slice a3 1 ac3] 26)) := hB.alloc hB.size _
  have ba0 := Blk.new x1 26 #[.string ⟨#[66, 111, 98, 32, 66]⟩, .string ⟨#[115, 105, 112]⟩, .string ⟨#[98]⟩, .string ⟨#[99]⟩, .int .i64 0, .slice a1 1 ac1, .slice a2 0 ac2, .slice a3 1 ac3]
  have sz1 : w.heap.size ≤ x1.heap.size := hB.size
  have ak1 := Lib.hid (k1.below ((Below.refl x1.heap.size x1).alloc (Nat.le_refl _) (.cells #[.string ⟨#[66, 111, 98, 32, 66]⟩, .string ⟨#[115, 105, 112]⟩, .string ⟨#[98]⟩, .string ⟨#[99]⟩, .int .i64 0, .slice a1 1 ac1, .slice a2 0 ac2, .slice a3 1 ac3] 26)) (Nat.le_refl _))
  have ak2 := Lib.hid (k2.below ((Below.refl x1.heap.size x1).alloc (Nat.le_refl _) (.cells #[.string ⟨#[66, 111, 98, 32, 66]⟩, .string ⟨#[115, 105, 112]⟩, .string ⟨#[98]⟩, .string ⟨#[99]⟩, .int .i64 0, .slice a1 1 ac1, .slice a2 0 ac2, .slice a3 1 ac3] 26)) (Nat.le_refl _))
  have ak3 := Lib.hid (k3.below ((Below.refl x1.heap.size x1).alloc (Nat.le_refl _) (.cells #[.string ⟨#[66, 111, 98, 32, 66]⟩, .string ⟨#[115, 105, 112]⟩, .string ⟨#[98]⟩, .string ⟨#[99]⟩, .int .i64 0, .slice a1 1 ac1, .slice a2 0 ac2, .slice a3 1 ac3] 26)) (Nat.le_refl _))
  obtain ⟨w1, hw1⟩ : ∃ x, x = x1.alloc (.cells #[.string ⟨#[66, 111, 98, 32, 66]⟩, .string ⟨#[115, 105, 112]⟩, .string ⟨#[98]⟩, .string ⟨#[99]⟩, .int .i64 0, .slice a1 1 ac1, .slice a2 0 ac2, .slice a3 1 ac3] 26) := ⟨_, rfl⟩
  rw [← hw1]
  rw [← hw1] at hW ba0 ak1 ak2 ak3
  replace hZ := hZ.trans (hW.mono hZ.size)
  clear hW k1 k2 k3 hB hw1
  go_upto_region 3 with (go_at_call 11; refine (H2.out _ (HM.out.below hZ)).mono ?_; rintro e x2 ⟨u1, u2, u3, rfl, k1, k2, k3, _, _, _, hB⟩; obtain ⟨b1, bc1, rfl, _, _⟩ := k1.form; obtain ⟨b2, bc2, rfl, _, _⟩ := k2.form; obtain ⟨b3, bc3, rfl, _, _⟩ := k3.form; replace k1 : RPrms x2 (.slice b1 0 bc1) [] := k1; replace k2 : RPrms x2 (.slice b2 0 bc2) [] := k2; replace k3 : RPrms x2 (.slice b3 1 bc3) [tgP] := k3)
  have hW : Below w1.heap.size w1 (x2.alloc (.cells #[.string ⟨#[]⟩, .string ⟨#[115, 105, 112]⟩, .string ⟨#[98]⟩, .string ⟨#[99]⟩, .int .i64 0, .slice b1 0 bc1, .slice b2 0 bc2, .slice b3 1 bc3] 26)) := hB.alloc hB.size _
  have bb0 := Blk.new x2 26 #[.string ⟨#[]⟩, .string ⟨#[115, 105, 112]⟩, .string ⟨#[98]⟩, .string ⟨#[99]⟩, .int .i64 0, .slice b1 0 bc1, .slice b2 0 bc2, .slice b3 1 bc3]
  have sz2 : w1.heap.size ≤ x2.heap.size := hB.size
  have bk1 := Lib.hid (k1.below ((Below.refl x2.heap.size x2).alloc (Nat.le_refl _) (.cells #[.string ⟨#[]⟩, .string ⟨#[115, 105, 112]⟩, .string ⟨#[98]⟩, .string ⟨#[99]⟩, .int .i64 0, .slice b1 0 bc1, .slice b2 0 bc2, .slice b3 1 bc3] 26)) (Nat.le_refl _))
  have bk2 := Lib.hid (k2.below ((Below.refl x2.heap.size x2).alloc (Nat.le_refl _) (.cells #[.string ⟨#[]⟩, .string ⟨#[115, 105, 112]⟩, .string ⟨#[98]⟩, .string ⟨#[99]⟩, .int .i64 0, .slice b1 0 bc1, .slice b2 0 bc2, .slice b3 1 bc3] 26)) (Nat.le_refl _))
  have bk3 := Lib.hid (k3.below ((Below.refl x2.heap.size x2).alloc (Nat.le_refl _) (.cells #[.string ⟨#[]⟩, .string ⟨#[115, 105, 112]⟩, .string ⟨#[98]⟩, .string ⟨#[99]⟩, .int .i64 0, .slice b1 0 bc1, .slice b2 0 bc2, .slice b3 1 bc3] 26)) (Nat.le_refl _))
  obtain ⟨w2, hw2⟩ : ∃ x, x = x2.alloc (.cells #[.string ⟨#[]⟩, .string ⟨#[115, 105, 112]⟩, .string ⟨#[98]⟩, .string ⟨#[99]⟩, .int .i64 0, .slice b1 0 bc1, .slice b2 0 bc2, .slice b3 1 bc3] 26) := ⟨_, rfl⟩
  rw [← hw2]
  rw [← hw2] at hW bb0 bk1 bk2 bk3
  replace hZ := hZ.trans (hW.mono hZ.size)
  replace ba0 := ba0.call hW
  replace ak1 := Lib.hid (ak1.out.below hW (Nat.le_refl _))
  replace ak3 := Lib.hid (ak3.out.below hW (Nat.le_refl _))
  clear hW k1 k2 k3 hB hw2
  go_upto_region 4 with (go_at_call 11; refine (H3.out _ (HM.out.below hZ)).mono ?_; rintro e x3 ⟨u1, u2, u3, rfl, k1, k2, k3, _, _, _, hB⟩; obtain ⟨c1, cc1, rfl, _, _⟩ := k1.form; obtain ⟨c2, cc2, rfl, _, _⟩ := k2.form; obtain ⟨c3, cc3, rfl, _, _⟩ := k3.form; replace k1 : RPrms x3 (.slice c1 0 cc1) [] := k1; replace k2 : RPrms x3 (.slice c2 0 cc2) [] := k2; replace k3 : RPrms x3 (.slice c3 0 cc3) [] := k3)
  have hW : Below w2.heap.size w2 (x3.alloc (.cells #[.string ⟨#[]⟩, .string ⟨#[]⟩, .string ⟨#[]⟩, .string ⟨#[]⟩, .int .i64 0, .slice c1 0 cc1, .slice c2 0 cc2, .slice c3 0 cc3] 26)) := hB.alloc hB.size _
  have bc0 := Blk.new x3 26 #[.string ⟨#[]⟩, .string ⟨#[]⟩, .string ⟨#[]⟩, .string ⟨#[]⟩, .int .i64 0, .slice c1 0 cc1, .slice c2 0 cc2, .slice c3 0 cc3]
  have sz3 : w2.heap.size ≤ x3.heap.size := hB.size
  have ck1 := Lib.hid (k1.below ((Below.refl x3.heap.size x3).alloc (Nat.le_refl _) (.cells #[.string ⟨#[]⟩, .string ⟨#[]⟩, .string ⟨#[]⟩, .string ⟨#[]⟩, .int .i64 0, .slice c1 0 cc1, .slice c2 0 cc2, .slice c3 0 cc3] 26)) (Nat.le_refl _))
  have ck2 := Lib.hid (k2.below ((Below.refl x3.heap.size x3).alloc (Nat.le_refl _) (.cells #[.string ⟨#[]⟩, .string ⟨#[]⟩, .string ⟨#[]⟩, .string ⟨#[]⟩, .int .i64 0, .slice c1 0 cc1, .slice c2 0 cc2, .slice c3 0 cc3] 26)) (Nat.le_refl _))
  have ck3 := Lib.hid (k3.below ((Below.refl x3.heap.size x3).alloc (Nat.le_refl _) (.cells #[.string ⟨#[]⟩, .string ⟨#[]⟩, .string ⟨#[]⟩, .string ⟨#[]⟩, .int .i64 0, .slice c1 0 cc1, .slice c2 0 cc2, .slice c3 0 cc3] 26)) (Nat.le_refl _))
  obtain ⟨w3, hw3⟩ : ∃ x, x = x3.alloc (.cells #[.string ⟨#[]⟩, .string ⟨#[]⟩, .string ⟨#[]⟩, .string ⟨#[]⟩, .int .i64 0, .slice c1 0 cc1, .slice c2 0 cc2, .slice c3 0 cc3] 26) := ⟨_, rfl⟩
  rw [← hw3]
  rw [← hw3] at hW bc0 ck1 ck2 ck3
  replace hZ := hZ.trans (hW.mono hZ.size)
  replace ba0 := ba0.call hW
  replace ak1 := Lib.hid (ak1.out.below hW (Nat.le_refl _))
  replace ak3 := Lib.hid (ak3.out.below hW (Nat.le_refl _))
  replace bb0 := bb0.call hW
  replace bk1 := Lib.hid (bk1.out.below hW (Nat.le_refl _))
  replace bk3 := Lib.hid (bk3.out.below hW (Nat.le_refl _))
  clear hW k1 k2 k3 hB hw3
  clear H1 H2 H3
  have T1 := Lib.hid (fun wx hv => tagA_c ⟨#[66, 111, 98, 32, 66]⟩ ⟨#[115, 105, 112]⟩ ⟨#[98]⟩ ⟨#[99]⟩ 0 (.slice a1 1 ac1) (.slice a2 0 ac2) (.slice a3 1 ac3) [lrP] [] [tgP] wx hv tgP_bd ⟨_, _, rfl⟩ ⟨_, _, rfl⟩)
  rw [ex5_t] at T1
  unfold bs at T1
  have T2 := Lib.hid (fun wx hv => tagA_c ⟨#[]⟩ ⟨#[115, 105, 112]⟩ ⟨#[98]⟩ ⟨#[99]⟩ 0 (.slice b1 0 bc1) (.slice b2 0 bc2) (.slice b3 1 bc3) [] [] [tgP] wx hv tgP_bd ⟨_, _, rfl⟩ ⟨_, _, rfl⟩)
  rw [ex5_t] at T2
  unfold bs at T2
  have hz3 : Below w3.heap.size w3 w3 := Below.refl _ _
  obtain ⟨p0, p1, p2, p3, p4, p5, p6, p7, _, _, _, _, _, _, _, _, _⟩ := blk_h8 ba0
  obtain ⟨q0, q1, q2, q3, q4, q5, q6, q7, _, _, _, _, _, _, _, _, _⟩ := blk_h8 bb0
  go_wp2_with (go_at_call 9; first | ((with_reducible refine (T1.out _ (ak3.out.below hz3 (Nat.le_refl _))).mono ?_); rintro e y1 ⟨rfl, hC⟩; replace hz3 := hz3.trans (hC.mono hz3.size); replace bb0 := bb0.call hC; clear q0 q1 q2 q3 q4 q5 q6 q7; obtain ⟨q0, q1, q2, q3, q4, q5, q6, q7, _, _, _, _, _, _, _, _, _⟩ := blk_h8 bb0) | ((with_reducible refine (T2.out _ (bk3.out.below hz3 (Nat.le_refl _))).mono ?_); rintro e y2 ⟨rfl, hC⟩; replace hz3 := hz3.trans (hC.mono hz3.size)))
  go_ret
  exact ⟨rfl, hZ.trans (hz3.mono hZ.size)⟩

end Go.Proofs.YtjpmfcipjaeemaaGreatDoor
