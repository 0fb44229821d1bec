/- Contracts of Go functions, and plain laws. No condition but those told. -/
import Derived.Test.YtgkilllbkljibaaGreatDoorR08
import Derived.Deep.QuietTactic
set_option linter.unusedSimpArgs false
set_option linter.unusedVariables false
set_option maxRecDepth 100000
namespace Go.Proofs.YtgkilllbkljibaaGreatDoor
open Go.RowKit
def sumH : List Hdr → Nat
 | [] => 0
 | h :: r => (10 + h.name.length + h.value.length) + sumH r
theorem sumH_take (H : List Hdr) (k : Nat) (h : k < H.length) : sumH (H.take (k + 1)) = sumH (H.take k) + (10 + H[k].name.length + H[k].value.length) := by
 induction H generalizing k with
 | nil => simp at h
 | cons x r ih =>
  cases k with
  | zero => simp [sumH]
  | succ k =>
   have := ih k (by simpa using h)
   simp only [List.take_succ_cons, sumH, List.getElem_cons_succ] at this ⊢
   omega
theorem sumH_le (H : List Hdr) (b : Nat) (h : ∀ x ∈ H, x.name.length ≤ b ∧ x.value.length ≤ b) (k : Nat) : sumH (H.take k) ≤ k * (10 + 2 * b) := by
 induction H generalizing k with
 | nil => simp [sumH]
 | cons x r ih =>
  cases k with
  | zero => simp [sumH]
  | succ k =>
   have := ih (fun y hy => h y (List.mem_cons_of_mem _ hy)) k
   have hx := h x (List.mem_cons_self ..)
   rw [List.take_succ_cons, sumH, Nat.succ_mul]
   omega
def size3 (M TG B : ByteArray) : Nat := M.size + TG.size + B.size
set_option maxHeartbeats 360000 in
theorem small10_c (M TG RS B : ByteArray) (X : Int) (u : Value) (H : List Hdr) (h1 : M.size ≤ 1048576) (h2 : TG.size ≤ 1048576) (h3 : RS.size ≤ 1048576) (h4 : B.size ≤ 1048576) (hH : H.length ≤ 1048576)
  (hb : ∀ h ∈ H, h.name.length ≤ 1048576 ∧ h.value.length ≤ 1048576) (w : World) (hu : RHdrs w u H) :
  Calls Tryz.prog 7 #[.agg #[.string M, .string TG, .int .i64 X, .string RS, u, .string B]] w fun e w' => e = .returned (.bool (decide (size3 M TG B + sumH H ≤ 6000))) ∧ Below w.heap.size w w' := by
 obtain ⟨ao, cap, rfl, hm1, c1⟩ := hu.form
 have C1 := κ c1
 have HBD := κ hb
 have HSL := κ (sumH_le H 1048576 hb)
 clear c1 hu hb
 have bm : Blk (w.alloc (.cells #[.string M, .string TG, .int .i64 X, .string RS, .slice ao H.length cap, .string B] 24)) w.heap.size 24 #[.string M, .string TG, .int .i64 X, .string RS, .slice ao H.length cap, .string B] := Blk.new _ _ _
 obtain ⟨w0, hw0⟩ : ∃ w0, w0 = w.alloc (.cells #[.string M, .string TG, .int .i64 X, .string RS, .slice ao H.length cap, .string B] 24) := ⟨_, rfl⟩
 have hBw : Below w.heap.size w w0 := by rw [hw0]; exact (Below.refl _ _).alloc (ρ _) _
 have v1 : IntKind.i64.wrap ((M.size : Int) + (TG.size : Int)) = (M.size : Int) + (TG.size : Int) := IntWalk.i64_in _ (by omega)
 have v2 : IntKind.i64.wrap ((M.size : Int) + (TG.size : Int) + (B.size : Int)) = (M.size : Int) + (TG.size : Int) + (B.size : Int) := IntWalk.i64_in _ (by omega)
 go_enter Tryz.func7, Tryz.ntmps7
 go_wp2
 simp only [← hw0]
 rw [← hw0] at bm
 have M4 := κ (fun (wx : World) (h : Drn w0 wx) => (boxedCell (bm.call h.below) 4 : wx.cell? ⟨w.heap.size, 4, none⟩ = some (.slice ao H.length cap)))
 clear hw0 bm v1 v2
 go_loopw [3, 4] (fun n i wr => ∃ (k N : Nat), k ≤ H.length ∧ i = .int .i64 k ∧ n = .int .i64 N ∧ N = size3 M TG B + sumH (H.take k) ∧ Drn w0 wr) (fun _ i _ => H.length - (intOf i).toNat)
 case atStart => exact ⟨0, size3 M TG B, Nat.zero_le _, rfl, by unfold size3; simp, by simp [sumH], Drn.refl _⟩
 case round =>
  obtain ⟨k, N, hk, rfl, rfl, hN, hD⟩ := hrel
  have m4 := M4.out wr hD
  have hBr : Below w.heap.size w wr := hBw.trans hD.below
  by_cases hlt : k < H.length
  ·obtain ⟨b, off, rfl, hb1, hc1⟩ := C1.out (by omega)
   have x0 : wr.cell? ⟨b, off + k * 2, none⟩ = some (.string (bs H[k].name)) := by
    rw [hBr.cell (p := ⟨b, off + k * 2, none⟩) hb1]; exact (hc1 k hlt).1
   have x1 : wr.cell? ⟨b, off + k * 2 + 1, none⟩ = some (.string (bs H[k].value)) := by
    rw [hBr.cell (p := ⟨b, off + k * 2 + 1, none⟩) hb1]; exact (hc1 k hlt).2
   have hsz := HBD.out _ (List.getElem_mem hlt)
   have hst := sumH_take H k hlt
   have hle := HSL.out k
   have hN4 : size3 M TG B ≤ 4194304 := by unfold size3; omega
   obtain ⟨P, hP⟩ : ∃ P, P = bs H[k].name := ⟨_, rfl⟩
   obtain ⟨V, hV⟩ : ∃ P, P = bs H[k].value := ⟨_, rfl⟩
   have zP : P.size = H[k].name.length := by rw [hP, size_bs]
   have zV : V.size = H[k].value.length := by rw [hV, size_bs]
   rw [← hP] at x0
   rw [← hV] at x1
   have hNb : N ≤ 4194304 + 1048576 * (10 + 2 * 1048576) := by
    have : k * (10 + 2 * 1048576) ≤ 1048576 * (10 + 2 * 1048576) := Nat.mul_le_mul_right _ (by omega)
    omega
   have hPb : P.size ≤ 1048576 := by omega
   have hVb : V.size ≤ 1048576 := by omega
   have HNX := κ (show N + 10 + P.size + V.size = size3 M TG B + sumH (H.take (k + 1)) by omega)
   clear hst hle hN hsz zP zV hP hV
   have k0 : (0 : Int) ≤ (k : Int) := by omega
   have k1 : (k : Int) < (H.length : Int) := by omega
   have v1 : IntKind.i64.wrap ((N : Int) + 10) = (N : Int) + 10 := IntWalk.i64_in _ (by omega)
   have v2 : IntKind.i64.wrap ((N : Int) + 10 + (P.size : Int)) = (N : Int) + 10 + (P.size : Int) := IntWalk.i64_in _ (by omega)
   have v3 : IntKind.i64.wrap ((N : Int) + 10 + (P.size : Int) + (V.size : Int)) = (N : Int) + 10 + (P.size : Int) + (V.size : Int) := IntWalk.i64_in _ (by omega)
   go_wp2
   go_quiet (fail)
   clear v1 v2 v3
   go_wp2
   go_roundw
   case rel => exact ⟨k + 1, N + 10 + P.size + V.size, by omega, by go_num, by simp, HNX.out, hD.step _⟩
   case measure => simp [intOf]; omega
  ·have HE := κ (show N = size3 M TG B + sumH H by rw [hN, List.take_of_length_le (by omega)])
   clear hN
   go_wp2
   go_ret
   refine ⟨ret_bool ?_, hBr⟩
   rw [← HE.out]
   first | rfl | (rw [decide_eq_decide]; omega)
end Go.Proofs.YtgkilllbkljibaaGreatDoor
