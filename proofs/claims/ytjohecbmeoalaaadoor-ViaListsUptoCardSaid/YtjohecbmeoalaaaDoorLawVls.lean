/-
  The law ViaLists: the walk.
-/
import Derived.Test.YtjohecbmeoalaaaDoorVal
namespace Go.Proofs.YtjohecbmeoalaaaDoor
open Go.RowKit Go.Sort

def sumV : List Hdr → Nat
  | [] => 0
  | h :: r => (1 + h.value.length) + sumV r
theorem sumV_take (H : List Hdr) (k : Nat) (h : k < H.length) : sumV (H.take (k + 1)) = sumV (H.take k) + (1 + H[k].value.length) := by
  induction H generalizing k with
  | nil => simp at h
  | cons x r ih =>
    cases k with
    | zero => simp [sumV]
    | succ k =>
      have := ih k (by simpa using h)
      simp only [List.take_succ_cons, sumV, List.getElem_cons_succ] at this ⊢
      omega
theorem sumV_le (H : List Hdr) (b : Nat) (h : ∀ x ∈ H, x.name.length ≤ b ∧ x.value.length ≤ b) (k : Nat) : sumV (H.take k) ≤ k * (1 + b) := by
  induction H generalizing k with
  | nil => simp [sumV]
  | cons x r ih =>
    cases k with
    | zero => simp [sumV]
    | succ k =>
      have := ih (fun y hy => h y (List.mem_cons_of_mem _ hy)) k
      have hx := h x (List.mem_cons_self ..)
      rw [List.take_succ_cons, sumV, Nat.succ_mul]
      omega
set_option maxRecDepth 100000 in
set_option maxHeartbeats 12800000 in
theorem viaLists_walk (M TG RS B : ByteArray) (X : Int) (u : Value) (H : List Hdr) (_h1 : M.size ≤ 1048576) (_h2 : TG.size ≤ 1048576) (_h3 : RS.size ≤ 1048576) (_h4 : B.size ≤ 1048576) (hH : H.length ≤ 1048576)
    (hb : ∀ h ∈ H, h.name.length ≤ 1048576 ∧ h.value.length ≤ 1048576) (_X0 : -9223372036854775808 ≤ X) (_X1 : X ≤ 9223372036854775807) (w : World) (hm : Ml w) (hu : RHdrs w u H) :
    Calls Tryd.prog 4 #[.agg #[.string M, .string TG, .int .i64 X, .string RS, u, .string B]] w fun e w' => e = .returned (.bool true) ∧ Below w.heap.size w w' := by
  have HM := Lib.hid hm
  have HU := Lib.hid hu
  obtain ⟨ao, cap, rfl, hm1, c1⟩ := hu.form
  have C1 := Lib.hid c1
  unfold maxLen at hm1
  have HA := Lib.hid (fun wx hx => awake_c wx hx)
  have HLp := Lib.hid (fun wx hx hv => list_c M TG RS B X (.slice ao H.length cap) H wx hx hv hb hH)
  have HLr := Lib.hid (fun wx hv => listR_c M TG RS B X (.slice ao H.length cap) H wx hv hb hH)
  obtain ⟨Q, hQ⟩ : ∃ Q, Q = listV (allS H nVia) := ⟨_, rfl⟩
  rw [← hQ] at HLp HLr
  have HS := Lib.hid (fun wx va vb h1 h2 => allV_c va vb Q.1 wx h1 h2)
  obtain ⟨L, hL⟩ : ∃ L, L = Q.1 := ⟨_, rfl⟩
  obtain ⟨C, hC⟩ : ∃ C, C = Q.2 := ⟨_, rfl⟩
  rw [← hL] at HLp HLr HS
  rw [← hC] at HLp HLr
  have HBD := Lib.hid hb
  have HSL := Lib.hid (sumV_le H 1048576 hb)
  clear hQ hL hC c1 hu hb hm
  have hBw : Below w.heap.size w (w.alloc (.cells #[.string M, .string TG, .int .i64 X, .string RS, .slice ao H.length cap, .string B] 35)) := (Below.refl _ _).alloc (Nat.le_refl _) _
  have bm0 : Blk (w.alloc (.cells #[.string M, .string TG, .int .i64 X, .string RS, .slice ao H.length cap, .string B] 35)) w.heap.size 35 #[.string M, .string TG, .int .i64 X, .string RS, .slice ao H.length cap, .string B] := Blk.new _ _ _
  obtain ⟨w0, hw0⟩ : ∃ w0, w0 = w.alloc (.cells #[.string M, .string TG, .int .i64 X, .string RS, .slice ao H.length cap, .string B] 35) := ⟨_, rfl⟩
  have HX := Lib.hid (fun (wx : World) (h : Below w0.heap.size w0 wx) => (show Blk wx w.heap.size 35 #[.string M, .string TG, .int .i64 X, .string RS, .slice ao H.length cap, .string B] ∧ Below w.heap.size w wx ∧ Ml wx ∧ RHdrs wx (.slice ao H.length cap) H from by
    subst hw0
    have hx := hBw.trans (h.mono hBw.size)
    exact ⟨bm0.call h, hx, HM.out.below hx, HU.out.below hx (Nat.le_refl _)⟩))
  have HW0 := Lib.hid hw0
  clear hw0 bm0 hBw
  go_enter Tryd.func4, Tryd.ntmps4
  go_wp2
  rw [← HW0.out]
  go_loopw [3, 4] (fun n i wr => ∃ (k N : Nat), k ≤ H.length ∧ i = .int .i64 k ∧ n = .int .i64 N ∧ N = sumV (H.take k) ∧ Below w0.heap.size w0 wr) (fun _ i _ => H.length - (intOf i).toNat)
  case atStart => exact ⟨0, 0, Nat.zero_le _, rfl, rfl, by simp [sumV], Below.refl _ _⟩
  case round =>
    obtain ⟨k, N, hk, rfl, rfl, hN, hZ⟩ := hrel
    obtain ⟨bm, hBB, hMM, hUU⟩ := HX.out _ hZ; obtain ⟨p0, p1, p2, p3, p4, p5⟩ := bm.f6
    by_cases hlt : k < H.length
    · obtain ⟨b, off, rfl, hb1, hc1⟩ := C1.out (by omega)
      have x1 : wr.cell? ⟨b, off + k * 2 + 1, none⟩ = some (.string (bs H[k].value)) := by
        rw [hBB.cell (p := ⟨b, off + k * 2 + 1, none⟩) hb1]; exact (hc1 k hlt).2
      have hsz := HBD.out _ (List.getElem_mem hlt)
      have hst := sumV_take H k hlt
      have hle := HSL.out k
      obtain ⟨V, hV⟩ : ∃ P, P = bs H[k].value := ⟨_, rfl⟩
      have zV : V.size = H[k].value.length := by rw [hV, size_bs]
      rw [← hV] at x1
      have hNb : N ≤ 1048576 * (1 + 1048576) := by
        have : k * (1 + 1048576) ≤ 1048576 * (1 + 1048576) := Nat.mul_le_mul_right _ (by omega)
        omega
      have hVb : V.size ≤ 1048576 := by omega
      have HNX := Lib.hid (show N + 1 + V.size = sumV (H.take (k + 1)) by omega)
      clear hst hle hN hsz zV hV hc1
      have k0 : (0 : Int) ≤ (k : Int) := by omega
      have k1 : (k : Int) < (H.length : Int) := by omega
      have v1 : IntKind.i64.wrap ((N : Int) + 1) = (N : Int) + 1 := IntWalk.i64_in _ (by omega)
      have v2 : IntKind.i64.wrap ((N : Int) + 1 + (V.size : Int)) = (N : Int) + 1 + (V.size : Int) := IntWalk.i64_in _ (by omega)
      go_wp2
      clear v1 v2
      go_roundw
      case rel => exact ⟨k + 1, N + 1 + V.size, by omega, by go_num, by simp, HNX.out, hZ⟩
      case measure => simp [intOf]; omega
    · clear hN
      by_cases h8 : 8000 < N
      · have t8 : (8000 : Int) < (N : Int) := by omega
        clear h8
        go_wp2_with (first | (go_at_call 9; refine (HA.out _ hMM).mono ?_; rintro e wz ⟨rfl, hCz⟩))
        go_ret
        exact ⟨rfl, hBB.trans (hCz.mono hBB.size)⟩
      · have t8 : ¬ ((8000 : Int) < (N : Int)) := by omega
        clear h8
        go_wp2_with (first | (go_at_call 13; refine (HLp.out _ hMM hUU).mono ?_; rintro e w1 ⟨va, rfl, hva, hC1⟩; have hZ := hZ.trans (hC1.mono hZ.size); obtain ⟨bm, hBB, hMM, hUU⟩ := HX.out _ hZ; obtain ⟨p0, p1, p2, p3, p4, p5⟩ := bm.f6) | (go_at_call 14; refine (HLr.out _ hUU).mono ?_; rintro e w2 ⟨vb, rfl, hvb, hC2⟩; have hva := hva.below hC2 (Nat.le_refl _); have hZ := hZ.trans (hC2.mono hZ.size); obtain ⟨bm, hBB, hMM, hUU⟩ := HX.out _ hZ; obtain ⟨p0, p1, p2, p3, p4, p5⟩ := bm.f6) | (go_at_call 15; refine (HS.out _ _ _ hva hvb).mono ?_; rintro e w3 ⟨rfl, hC3⟩; have hZ := hZ.trans (hC3.mono hZ.size); obtain ⟨bm, hBB, hMM, hUU⟩ := HX.out _ hZ; obtain ⟨p0, p1, p2, p3, p4, p5⟩ := bm.f6) | (go_at_call 9; refine (HA.out _ hMM).mono ?_; rintro e wz ⟨rfl, hCz⟩))
        go_ret
        exact ⟨rfl, hBB.trans (hCz.mono hBB.size)⟩

end Go.Proofs.YtjohecbmeoalaaaDoor
