/-
  rosterref06.Same.
-/
import Derived.Test.YtgpbnbaegghajaaDoorHdr
namespace Go.Proofs.YtgpbnbaegghajaaDoor
open Go.RowKit

theorem hdrs_drop (L M : List Hdr) (k : Nat) (h1 : k < L.length) (h2 : k < M.length) : (L.drop k == M.drop k) = ((L[k] == M[k]) && (L.drop (k + 1) == M.drop (k + 1))) := by
  rw [List.drop_eq_getElem_cons h1, List.drop_eq_getElem_cons h2]; rfl
theorem hdr_eq (p q : Hdr) : (p == q) = (((bs p.name).toList == (bs q.name).toList) && ((bs p.value).toList == (bs q.value).toList)) := by
  simp only [toList_us, us_bs]
  obtain ⟨a, b⟩ := p
  obtain ⟨a', b'⟩ := q
  rw [Bool.eq_iff_iff]
  simp
theorem mg_eq (A B : Mg) : (A == B) = ((A.method == B.method) && (A.target == B.target) && (A.status == B.status) && (A.reason == B.reason) && (A.body == B.body) && (A.hdrs == B.hdrs)) := by
  obtain ⟨a1, a2, a3, a4, a5, a6⟩ := A
  obtain ⟨b1, b2, b3, b4, b5, b6⟩ := B
  rw [Bool.eq_iff_iff]
  simp [and_assoc]
  intros; exact And.comm
theorem mg_ne {A B : Mg} (h : ¬ (A.method = B.method ∧ A.target = B.target ∧ A.status = B.status ∧ A.reason = B.reason ∧ A.body = B.body ∧ A.hdrs.length = B.hdrs.length)) : (A == B) = false := by
  rw [beq_eq_false_iff_ne]; rintro rfl; exact h ⟨rfl, rfl, rfl, rfl, rfl, rfl⟩

set_option maxRecDepth 100000 in
set_option maxHeartbeats 6400000 in
theorem sameM_c (u v : Value) (A B : Mg) (w : World) (hu : RHdrs w u A.hdrs) (hv : RHdrs w v B.hdrs) :
    Calls Tryd.prog 11 #[mgv A u, mgv B v] w fun e w' => e = .returned (.bool (A == B)) ∧ Below w.heap.size w w' := by
  obtain ⟨ao, cap, rfl, hm1, c1⟩ := hu.form
  obtain ⟨bo, cap', rfl, hm2, c2⟩ := hv.form
  have C1 := Lib.hid c1
  have C2 := Lib.hid c2
  clear c1 c2 hu hv
  unfold maxLen at hm1 hm2
  have hne := @mg_ne A B
  have heq := mg_eq A B
  unfold mgv sv
  have e1 : ∀ a b : List UInt8, ((bs a).toList == (bs b).toList) = decide (a = b) := fun a b => by rw [toList_us, toList_us, us_bs, us_bs]; exact Bool.eq_iff_iff.2 (by simp)
  have b1 := e1 A.method B.method
  have b2 := e1 A.target B.target
  have b4 := e1 A.reason B.reason
  have b6 := e1 A.body B.body
  obtain ⟨AM, hAM⟩ : ∃ x, x = bs A.method := ⟨_, rfl⟩
  obtain ⟨AT, hAT⟩ : ∃ x, x = bs A.target := ⟨_, rfl⟩
  obtain ⟨AR, hAR⟩ : ∃ x, x = bs A.reason := ⟨_, rfl⟩
  obtain ⟨AB, hAB⟩ : ∃ x, x = bs A.body := ⟨_, rfl⟩
  obtain ⟨BM, hBM⟩ : ∃ x, x = bs B.method := ⟨_, rfl⟩
  obtain ⟨BT, hBT⟩ : ∃ x, x = bs B.target := ⟨_, rfl⟩
  obtain ⟨BR, hBR⟩ : ∃ x, x = bs B.reason := ⟨_, rfl⟩
  obtain ⟨BB, hBB⟩ : ∃ x, x = bs B.body := ⟨_, rfl⟩
  simp only [← hAM, ← hAT, ← hAR, ← hAB, ← hBM, ← hBT, ← hBR, ← hBB] at *
  clear hAM hAT hAR hAB hBM hBT hBR hBB e1
  have hB0 : Below w.heap.size w ((w.alloc (.cells #[.string AM, .string AT, .int .i64 A.status, .string AR, .slice ao A.hdrs.length cap, .string AB] 25)).alloc (.cells #[.string BM, .string BT, .int .i64 B.status, .string BR, .slice bo B.hdrs.length cap', .string BB] 25)) := ((Below.refl _ _).alloc (Nat.le_refl _) _).alloc (by simp) _
  by_cases d1 : A.method = B.method
  case neg =>
    have HE := Lib.hid (hne (fun h => d1 h.1))
    rw [decide_eq_false d1] at b1
    clear hne heq b2 b4 b6 d1
    go_enter Tryd.func11, Tryd.ntmps11
    go_wp2; go_ret; exact ⟨ret_bool HE.out.symm, hB0⟩
  rw [decide_eq_true d1] at b1
  by_cases d2 : A.target = B.target
  case neg =>
    have HE := Lib.hid (hne (fun h => d2 h.2.1))
    rw [decide_eq_false d2] at b2
    clear hne heq b4 b6 d1 d2
    go_enter Tryd.func11, Tryd.ntmps11
    go_wp2; go_ret; exact ⟨ret_bool HE.out.symm, hB0⟩
  rw [decide_eq_true d2] at b2
  by_cases d3 : A.status = B.status
  case neg =>
    have HE := Lib.hid (hne (fun h => d3 h.2.2.1))
    have b3 : (A.status != B.status) = true := by simpa using d3
    clear hne heq b4 b6 d1 d2 d3
    go_enter Tryd.func11, Tryd.ntmps11
    go_wp2; go_ret; exact ⟨ret_bool HE.out.symm, hB0⟩
  have b3 : (A.status != B.status) = false := by simpa using d3
  by_cases d4 : A.reason = B.reason
  case neg =>
    have HE := Lib.hid (hne (fun h => d4 h.2.2.2.1))
    rw [decide_eq_false d4] at b4
    clear hne heq b6 d1 d2 d3 d4
    go_enter Tryd.func11, Tryd.ntmps11
    go_wp2; go_ret; exact ⟨ret_bool HE.out.symm, hB0⟩
  rw [decide_eq_true d4] at b4
  by_cases d5 : A.body = B.body
  case neg =>
    have HE := Lib.hid (hne (fun h => d5 h.2.2.2.2.1))
    rw [decide_eq_false d5] at b6
    clear hne heq d1 d2 d3 d4 d5
    go_enter Tryd.func11, Tryd.ntmps11
    go_wp2; go_ret; exact ⟨ret_bool HE.out.symm, hB0⟩
  rw [decide_eq_true d5] at b6
  by_cases d6 : A.hdrs.length = B.hdrs.length
  case neg =>
    have HE := Lib.hid (hne (fun h => d6 h.2.2.2.2.2))
    have b7 : ((A.hdrs.length : Int) != (B.hdrs.length : Int)) = true := by simp; omega
    clear hne heq d1 d2 d3 d4 d5 d6
    go_enter Tryd.func11, Tryd.ntmps11
    go_wp2; go_ret; exact ⟨ret_bool HE.out.symm, hB0⟩
  have b7 : ((A.hdrs.length : Int) != (B.hdrs.length : Int)) = false := by simp; omega
  have HH := Lib.hid (show (A == B) = (A.hdrs == B.hdrs) by rw [heq, d1, d2, d3, d4, d5]; simp)
  have hle1 : A.hdrs.length ≤ B.hdrs.length := by omega
  have hle2 : B.hdrs.length ≤ A.hdrs.length := by omega
  clear hne heq d1 d2 d3 d4 d5 d6
  go_enter Tryd.func11, Tryd.ntmps11
  go_wp2
  obtain ⟨w1, hw1⟩ : ∃ w1, w1 = ((w.alloc (.cells #[.string AM, .string AT, .int .i64 A.status, .string AR, .slice ao A.hdrs.length cap, .string AB] 25)).alloc (.cells #[.string BM, .string BT, .int .i64 B.status, .string BR, .slice bo B.hdrs.length cap', .string BB] 25)) := ⟨_, rfl⟩
  have ba : Blk w1 w.heap.size 25 #[.string AM, .string AT, .int .i64 A.status, .string AR, .slice ao A.hdrs.length cap, .string AB] := by rw [hw1]; exact (Blk.new _ _ _).alloc _
  have bb : Blk w1 (w.heap.size + 1) 25 #[.string BM, .string BT, .int .i64 B.status, .string BR, .slice bo B.hdrs.length cap', .string BB] := by
    rw [hw1, show w.heap.size + 1 = (w.alloc (.cells #[.string AM, .string AT, .int .i64 A.status, .string AR, .slice ao A.hdrs.length cap, .string AB] 25)).heap.size by simp]; exact Blk.new _ _ _
  rw [← hw1] at hB0
  simp only [← hw1]
  clear hw1
  go_loopw [5] (fun i wr => ∃ k : Nat, k ≤ A.hdrs.length ∧ i = .int .i64 k ∧ Drn w1 wr ∧ (A.hdrs.drop k == B.hdrs.drop k) = (A.hdrs == B.hdrs)) (fun i _ => A.hdrs.length - (intOf i).toNat)
  case atStart => exact ⟨0, Nat.zero_le _, rfl, Drn.refl _, rfl⟩
  case round =>
    obtain ⟨k, hk, rfl, hD, hb⟩ := hrel
    have HB := Lib.hid hb; clear hb
    have hBr : Below w.heap.size w wr := hB0.trans hD.below
    have m4 : wr.cell? ⟨w.heap.size, 4, none⟩ = some (.slice ao A.hdrs.length cap) := boxedCell (ba.call hD.below) 4
    have n4 : wr.cell? ⟨w.heap.size + 1, 4, none⟩ = some (.slice bo B.hdrs.length cap') := boxedCell (bb.call hD.below) 4
    by_cases hlt : k < A.hdrs.length
    · have hlt' : k < B.hdrs.length := by omega
      obtain ⟨b, off, rfl, hb1, hc1⟩ := C1.out (by omega)
      obtain ⟨b', off', rfl, hb2, hc2⟩ := C2.out (by omega)
      have hd := Lib.hid (hdrs_drop A.hdrs B.hdrs k hlt hlt')
      have y0 : wr.cell? ⟨b, off + k * 2, none⟩ = some (.string (bs A.hdrs[k].name)) := by rw [hBr.cell (p := ⟨b, off + k * 2, none⟩) hb1]; exact (hc1 k hlt).1
      have y1 : wr.cell? ⟨b, off + k * 2 + 1, none⟩ = some (.string (bs A.hdrs[k].value)) := by rw [hBr.cell (p := ⟨b, off + k * 2 + 1, none⟩) hb1]; exact (hc1 k hlt).2
      have z0 : wr.cell? ⟨b', off' + k * 2, none⟩ = some (.string (bs B.hdrs[k].name)) := by rw [hBr.cell (p := ⟨b', off' + k * 2, none⟩) hb2]; exact (hc2 k hlt').1
      have z1 : wr.cell? ⟨b', off' + k * 2 + 1, none⟩ = some (.string (bs B.hdrs[k].value)) := by rw [hBr.cell (p := ⟨b', off' + k * 2 + 1, none⟩) hb2]; exact (hc2 k hlt').2
      have k0 : (0 : Int) ≤ (k : Int) := by omega
      have k1 : (k : Int) < (A.hdrs.length : Int) := by omega
      have k2 : (k : Int) < (B.hdrs.length : Int) := by omega
      clear hc1 hc2
      have HPE := Lib.hid (hdr_eq A.hdrs[k] B.hdrs[k])
      obtain ⟨A0, hA0⟩ : ∃ x, x = bs A.hdrs[k].name := ⟨_, rfl⟩
      obtain ⟨A1, hA1⟩ : ∃ x, x = bs A.hdrs[k].value := ⟨_, rfl⟩
      obtain ⟨B0, hB0'⟩ : ∃ x, x = bs B.hdrs[k].name := ⟨_, rfl⟩
      obtain ⟨B1, hB1⟩ : ∃ x, x = bs B.hdrs[k].value := ⟨_, rfl⟩
      rw [← hA0] at y0 HPE
      rw [← hA1] at y1 HPE
      rw [← hB0'] at z0 HPE
      rw [← hB1] at z1 HPE
      clear hA0 hA1 hB0' hB1
      have hcase : ((A0.toList == B0.toList) = true ∧ (A1.toList == B1.toList) = true) ∨ ((A0.toList == B0.toList) = false) ∨ ((A0.toList == B0.toList) = true ∧ (A1.toList == B1.toList) = false) := by
        cases (A0.toList == B0.toList) <;> cases (A1.toList == B1.toList) <;> simp
      rcases hcase with ⟨q0, q1⟩ | hc
      · rw [q0, q1] at HPE
        go_wp2
        go_quiet (fail)
        go_wp2
        go_roundw
        case rel => exact ⟨k + 1, by omega, by go_num, hD.step _, by rw [← HB.out, hd.out, HPE.out]; rfl⟩
        case measure => simp [intOf]; omega
      · have HF := Lib.hid (show (A.hdrs[k] == B.hdrs[k]) = false by
          rw [HPE.out]
          rcases hc with q0 | ⟨q0, q1⟩
          · rw [q0]; rfl
          · rw [q0, q1]; rfl)
        rcases hc with q0 | ⟨q0, q1⟩
        all_goals
          go_wp2
          go_quiet (fail)
          go_wp2
          go_ret
          exact ⟨ret_bool (by rw [HH.out, ← HB.out, hd.out, HF.out]; rfl), hBr.trans (Drn.below ⟨_, rfl⟩)⟩
    · go_wp2
      go_ret
      refine ⟨ret_bool ?_, hBr⟩
      rw [HH.out, ← HB.out, List.drop_eq_nil_iff.2 (by omega), List.drop_eq_nil_iff.2 (by omega)]; rfl

end Go.Proofs.YtgpbnbaegghajaaDoor
