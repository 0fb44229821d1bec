/-
  rosterlaw17.t, small.
-/
import Derived.Test.YtbljmjbialinkaaDoorComH
namespace Go.Proofs.YtbljmjbialinkaaDoor
set_option linter.unusedSimpArgs false
set_option linter.unusedVariables false
open Go.RowKit Go.Sort Go.Maps

set_option maxRecDepth 100000 in
set_option maxHeartbeats 1600000 in
theorem t17_c (s : ByteArray) (o : Bool) (w : World) :
    Calls Tryd.prog 14 #[.string s, .bool o] w fun e w' => e = .returned (.agg #[.string s, .bool o, .string ⟨#[]⟩, .int .i64 (-1), .string ⟨#[]⟩]) ∧ Below w.heap.size w w' := by
  go_enter Tryd.func14, Tryd.ntmps14
  go_wp2_with (with_reducible refine holdStore 39 rfl ?_)
  unfold Hold
  refine wpList_storeNew (vs := #[.string s, .bool o, .string ⟨#[]⟩, .int .i64 (-1), .string ⟨#[]⟩]) rfl rfl rfl rfl (by kernel_rfl) (by rfl) (by rfl) ?_
  have bz := Blk.new w 39 #[.string s, .bool o, .string ⟨#[]⟩, .int .i64 (-1), .string ⟨#[]⟩]
  go_wp2
  refine bodyPost_ret (results_c rfl rfl Tryd.underlying39 (by kernel_rfl) bz) rfl ?_
  exact ⟨rfl, (Below.refl _ _).alloc (Nat.le_refl _) _⟩

/-- is it not too much? -/
def cntP (L : List Pb) : Nat := (L.map fun p => 1 + p.doc.tups.length + p.doc.notes.length).sum
def smallP (L : List Pb) : Bool := decide (cntP L ≤ 400)
theorem cntP_take (L : List Pb) (k : Nat) (hk : k < L.length) : cntP (L.take (k + 1)) = cntP (L.take k) + 1 + L[k].doc.tups.length + L[k].doc.notes.length := by
  unfold cntP
  rw [List.take_succ_eq_append_getElem hk, List.map_append, List.sum_append]; simp; omega
theorem cntP_len (L : List Pb) : L.length ≤ cntP L := by
  induction L with
  | nil => simp [cntP]
  | cons p r ih => unfold cntP at ih ⊢; simp; omega
theorem cntP_le (L : List Pb) (k : Nat) : cntP (L.take k) ≤ cntP L := by
  unfold cntP
  conv => rhs; rw [← List.take_append_drop k L, List.map_append, List.sum_append]
  omega
set_option maxRecDepth 100000 in
set_option maxHeartbeats 3200000 in
theorem small17_c (v : Value) (L : List Pb) (w : World) (hL : RPubs w v L) (hb : cntP L ≤ 4611686018427387904) :
    Calls Tryd.prog 10 #[v] w fun e w' => e = .returned (.bool (smallP L)) ∧ Below w.heap.size w w' := by
  obtain ⟨po, pc, rfl, hml, c1⟩ := hL.form
  have CL := Lib.hid c1
  have HB := Lib.hid hb
  unfold maxLen at hml
  have hle := cntP_len L
  clear c1 hL
  go_enter Tryd.func10, Tryd.ntmps10
  go_wp2
  go_loopw [3, 4] (fun x y wr => ∃ k : Nat, k ≤ L.length ∧ x = .int .i64 (cntP (L.take k) : Nat) ∧ y = .int .i64 k ∧ Hid (Below w.heap.size w wr)) (fun _ y _ => L.length - (intOf y).toNat)
  case atStart => exact ⟨0, Nat.zero_le _, rfl, rfl, Lib.hid (Below.refl _ _)⟩
  case round =>
    obtain ⟨k, hk, rfl, rfl, HD⟩ := hrel
    have hcl := cntP_le L k
    have hcl2 := cntP_le L (k + 1)
    by_cases hlt : k < L.length
    · obtain ⟨b, off, rfl, hb1, hc1⟩ := CL.out (by omega)
      have hpa := (hc1 k hlt).below HD.out (Nat.le_refl _) hb1
      have hct := cntP_take L k hlt
      obtain ⟨q, hq⟩ : ∃ q, q = L[k] := ⟨_, rfl⟩
      rw [← hq] at hpa hct
      obtain ⟨a0, ⟨S1, a1⟩, ⟨S2, a2⟩, ⟨n3, a3⟩, a4, u1, u2, a5, a6, k1, k2⟩ := hpa
      obtain ⟨ao, ac, rfl, _, _⟩ := k1.form
      obtain ⟨bo, bc, rfl, _, _⟩ := k2.formT
      obtain ⟨C, hC⟩ : ∃ C, C = cntP (L.take k) := ⟨_, rfl⟩
      rw [← hC] at hct hcl
      rw [hct] at hcl2
      simp only [← hC]
      have HCT := Lib.hid hct
      have k0 : (0 : Int) ≤ (k : Int) := by omega
      have kk : (k : Int) < (L.length : Int) := by omega
      clear hct hC hc1 hb1 k1 k2 hq
      go_wp2
      go_quiet (fail)
      go_wp2
      go_roundw
      case rel => exact ⟨k + 1, by omega, by rw [HCT.out]; go_num, by go_num, Lib.hid (HD.out.trans (Drn.below ⟨_, rfl⟩))⟩
      case measure => simp [intOf]; omega
    · have HE := Lib.hid (show smallP L = decide ((cntP (L.take k) : Int) ≤ 400) by
        unfold smallP
        rw [List.take_of_length_le (by omega), Bool.eq_iff_iff, decide_eq_true_iff, decide_eq_true_iff]; omega)
      clear hcl hcl2
      go_wp2
      go_ret
      exact ⟨ret_bool HE.out.symm, HD.out⟩

end Go.Proofs.YtbljmjbialinkaaDoor
