/-
  pidf.tuple.
-/
import Derived.Test.YtbljmjbialinkaaDoorXct
namespace Go.Proofs.YtbljmjbialinkaaDoor
set_option linter.unusedSimpArgs false
set_option linter.unusedVariables false
open Go.RowKit Go.Sort

set_option maxRecDepth 100000 in
set_option maxHeartbeats 6400000 in
theorem tuple_c (t : Tup) (ht : TupBd 4294967280 t) (w : World) :
    Calls Tryd.prog 17 #[t.val] w fun e w' => e = .returned (.bool (tupOK t)) ∧ Below w.heap.size w w' := by
  obtain ⟨b1, b2, b3, b4, b5⟩ := ht
  have HI := Lib.hid (fun wx => id_c (bs t.id) (by rw [size_bs]; exact b1) wx)
  have HC := Lib.hid (fun wx => pText_c (bs t.con) (by rw [size_bs]; exact b2) wx)
  have HN := Lib.hid (fun wx => pText_c (bs t.note) (by rw [size_bs]; exact b3) wx)
  rw [us_bs] at HI HC HN
  have hcs := tupOK_cases t
  have hce : t.con = [] → bs t.con = ⟨#[]⟩ := fun h => by rw [h]; rfl
  have hcn : t.con ≠ [] → (bs t.con).size ≠ 0 := fun h => by rw [size_bs]; intro e; exact h (List.eq_nil_of_length_eq_zero e)
  obtain ⟨K, hK⟩ : ∃ x, x = tupOK t := ⟨_, rfl⟩
  rw [← hK] at hcs ⊢
  unfold Tup.val sv
  obtain ⟨I, hI⟩ : ∃ x, x = bs t.id := ⟨_, rfl⟩
  rw [← hI] at HI ⊢
  obtain ⟨C, hC⟩ : ∃ x, x = bs t.con := ⟨_, rfl⟩
  rw [← hC] at HC hce hcn ⊢
  obtain ⟨N, hN⟩ : ∃ x, x = bs t.note := ⟨_, rfl⟩
  rw [← hN] at HN ⊢
  have hB0 : Below w.heap.size w (w.alloc (.cells #[.string I, .bool t.opn, .string C, .int .i64 t.prio, .string N] 39)) := (Below.refl _ _).alloc (Nat.le_refl _) _
  have bm0 := Blk.new w 39 #[.string I, .bool t.opn, .string C, .int .i64 t.prio, .string N]
  obtain ⟨w0, hw0⟩ : ∃ w0, w0 = w.alloc (.cells #[.string I, .bool t.opn, .string C, .int .i64 t.prio, .string N] 39) := ⟨_, rfl⟩
  rw [← hw0] at hB0 bm0
  have HW0 := Lib.hid hw0
  obtain ⟨p0, p1, p2, p3, p4⟩ := blk_f5T bm0
  obtain ⟨pr, hpr⟩ : ∃ x, x = t.prio := ⟨_, rfl⟩
  obtain ⟨i1, hi1⟩ : ∃ x, x = idOK t.id := ⟨_, rfl⟩
  obtain ⟨i2, hi2⟩ : ∃ x, x = textOK t.con := ⟨_, rfl⟩
  obtain ⟨i3, hi3⟩ : ∃ x, x = textOK t.note := ⟨_, rfl⟩
  rw [← hi1] at HI hcs
  rw [← hi2] at HC hcs
  rw [← hi3] at HN hcs
  rw [← hpr] at hcs
  simp only [← hpr] at hw0 bm0 p3 HW0 ⊢
  clear hK hI hC hN hi1 hi2 hi3 hpr hw0 b1 b2 b3 b4 b5
  rcases hcs with ⟨k1, rfl⟩ | ⟨k1, k2, rfl⟩ | ⟨k1, k2, k3, rfl⟩ | ⟨k1, k2, k3, k4, rfl⟩ | ⟨k1, k2, k3, k4, k5, rfl⟩ | ⟨k1, k2, k3, k4, k5, k6, rfl⟩ | ⟨k1, k2, k3, k4, k5, k6, rfl⟩
  all_goals
    (try have k4' : ¬ (-1 ≤ pr) := by omega)
    (try (have e0 := hcn k6; have e1 := isEmpty_f e0; have e2 := ne_empty e0; clear e0))
    (try (have e3 := hce k6; subst e3))
    (try rw [k1] at HI)
    (try rw [k2] at HC)
    (try rw [k3] at HN)
    clear hce hcn
    (try clear k6)
    (try clear k1)
    (try clear k2)
    (try clear k3)
    go_enter Tryd.func17, Tryd.ntmps17
    go_wp2_with (first | (go_at_call 22; (try rw [← HW0.out]); refine (HI.out _).mono ?_; rintro e w1 ⟨rfl, hC1⟩; have bm1 := bm0.call hC1; have hB1 := hB0.trans (hC1.mono hB0.size); clear p0 p1 p2 p3 p4; obtain ⟨p0, p1, p2, p3, p4⟩ := blk_f5T bm1) | (go_at_call 18; ((with_reducible refine (HC.out w1).mono ?_); rintro e w2 ⟨rfl, hC2⟩; have bm2 := bm1.call hC2; have hB2 := hB1.trans (hC2.mono hB1.size); clear p0 p1 p2 p3 p4; obtain ⟨p0, p1, p2, p3, p4⟩ := blk_f5T bm2)) | (go_at_call 18; ((with_reducible refine (HN.out w2).mono ?_); rintro e w3 ⟨rfl, hC3⟩; have bm3 := bm2.call hC3; have hB3 := hB2.trans (hC3.mono hB2.size); clear p0 p1 p2 p3 p4; obtain ⟨p0, p1, p2, p3, p4⟩ := blk_f5T bm3)))
    go_ret
    first
      | exact ⟨rfl, hB3⟩
      | exact ⟨rfl, hB2⟩
      | exact ⟨rfl, hB1⟩

end Go.Proofs.YtbljmjbialinkaaDoor
