/-
  ReplyMore: the walk.
-/
import Derived.Test.YtgkilllbkljibaaGreatDoorRaw
import Derived.Test.YtgkilllbkljibaaGreatDoorRba
import Derived.Test.YtgkilllbkljibaaGreatDoorRs0
import Derived.Test.YtgkilllbkljibaaGreatDoorR15
namespace Go.Proofs.YtgkilllbkljibaaGreatDoor
set_option linter.unusedSimpArgs false
set_option linter.unusedVariables false
open Go.RowKit Go.Sort

theorem RRqt.cells7 {w : World} {rs : Array Value} {r : Rqt} (h : RRqt w (.agg rs) r) : rs[0]? = some (.string (bs r.meth)) ∧ rs[7]? = some (.string (bs r.branch)) ∧ rs[25]? = some (.string (bs r.fromT)) ∧ rs[26]? = some (.string (bs r.toT)) ∧ rs[27]? = some (.string (bs r.call)) ∧ rs[28]? = some (.int .i64 r.seq) ∧ rs[37]? = some (.string (bs r.body)) := by
  obtain ⟨_, _, _, _, _, _, _, _, _, _, _, _, e, _⟩ := h
  injection e with e
  rw [e]
  exact ⟨rfl, rfl, rfl, rfl, rfl, rfl, rfl⟩
theorem seqP_bd (l : List UInt8) (h : (seqP l).2.2 = 0) : 0 ≤ (seqP l).1 ∧ (seqP l).1 ≤ 2147483647 := by
  unfold seqP at h ⊢
  split at h
  · cases h
  · rename_i h9
    rw [if_neg h9]
    exact number_bd _ _ (by decide) (by
      by_cases h0 : (number (cutb 32 (swapb 9 32 (trim l))).1 2147483647).2 = 0
      · exact h0
      · exact absurd (Or.inr (Or.inl h0)) h9)
theorem must_seq (m : Mg) (h : (mustS m).2 = 0) : 0 ≤ (mustS m).1.seq ∧ (mustS m).1.seq ≤ 2147483647 := by
  obtain ⟨_, _, e, h0⟩ := must_ok m h
  rw [e]
  exact seqP_bd _ h0

set_option maxRecDepth 100000 in
set_option maxHeartbeats 12800000 in
theorem replyMore_walk (M TG RS B : ByteArray) (X : Int) (u : Value) (H : List Hdr) (h1 : M.size ≤ 1048576) (h2 : TG.size ≤ 1048576) (h3 : RS.size ≤ 1048576) (h4 : B.size ≤ 1048576) (hH : H.length ≤ 1048576)
    (hb : ∀ h ∈ H, h.name.length ≤ 1048576 ∧ h.value.length ≤ 1048576) (X0 : -9223372036854775808 ≤ X) (X1 : X ≤ 9223372036854775807) (w : World) (hm : Ml w) (hu : RHdrs w u H) :
    Calls Tryz.prog 6 #[.agg #[.string M, .string TG, .int .i64 X, .string RS, u, .string B]] w fun e w' => e = .returned (.bool true) ∧ Below w.heap.size w w' := by
  have HM := Lib.hid hm
  have HU := Lib.hid hu
  obtain ⟨mo, mc, rfl, _, _⟩ := hu.form
  have HSM := Lib.hid (fun (wx : World) (h : Below w.heap.size w wx) => small10_c M TG RS B X (.slice mo H.length mc) H h1 h2 h3 h4 hH hb wx (hu.below h (Nat.le_refl _)))
  obtain ⟨sb, hsb⟩ : ∃ x, x = decide (size3 M TG B + sumH H ≤ 6000) := ⟨_, rfl⟩
  rw [← hsb] at HSM
  clear hsb
  have HAW := Lib.hid (fun wx hx => awake10_c wx hx)
  have HRD := Lib.hid (fun (wx : World) (h : Below w.heap.size w wx) => readRq_c M TG RS B X (.slice mo H.length mc) H wx (hm.below h) (hu.below h (Nat.le_refl _)) hb hH (by omega))
  unfold RPost at HRD
  have HBS := Lib.hid (fun (wx : World) (h : Below w.heap.size w wx) => base_c M TG RS B X (.slice mo H.length mc) H wx (hm.below h) (hu.below h (Nat.le_refl _)) hb hH)
  unfold RPost at HBS
  obtain ⟨mg, hmg⟩ : ∃ x : Mg, x = ⟨us M, us TG, X, us RS, H, us B⟩ := ⟨_, rfl⟩
  rw [← hmg] at HRD HBS
  have HMB : Hid (mg.body = us B) := Lib.hid (by rw [hmg])
  have HER := Lib.hid (read_err mg)
  have HMO := Lib.hid (read_more mg)
  have HSQ := Lib.hid (must_seq mg)
  clear hmg hm hu hb
  obtain ⟨⟨R, ec⟩, hR⟩ : ∃ x, x = readS mg := ⟨_, rfl⟩
  rw [← hR] at HRD HER HMO
  obtain ⟨⟨Q, fc⟩, hQ⟩ : ∃ x, x = mustS mg := ⟨_, rfl⟩
  rw [← hQ] at HBS HMO HSQ
  dsimp only at HRD HER HMO HBS HSQ
  clear hR hQ
  go_enter Tryz.func6, Tryz.ntmps6
  go_upto_region 1 with fail
  refine any_world (R := Code.wp _ _ _ _) (fun x => Blk x w.heap.size 24 #[.string M, .string TG, .int .i64 X, .string RS, .slice mo H.length mc, .string B] ∧ Below w.heap.size w x) (show Blk (w.alloc (.cells #[.string M, .string TG, .int .i64 X, .string RS, .slice mo H.length mc, .string B] 24)) _ _ _ ∧ Below _ w (w.alloc (.cells #[.string M, .string TG, .int .i64 X, .string RS, .slice mo H.length mc, .string B] 24)) from ⟨Blk.new w _ _, (Below.refl _ _).alloc (Nat.le_refl _) _⟩) ?_
  rintro wr ⟨bm, hB⟩
  cases sb with
  | false =>
    go_wp2_with (first | ((with_reducible refine holdLoad 24 rfl ?_); unfold Hold; refine wpList_loadB (vs := #[.string M, .string TG, .int .i64 X, .string RS, .slice mo H.length mc, .string B]) rfl rfl rfl Tryz.underlying24 (by kernel_rfl) bm (whole _) ?_) | (go_at_call 7; refine (HSM.out _ hB).mono ?_; rintro e w1 ⟨rfl, hC⟩; replace bm := bm.call hC; replace hB := hB.trans (hC.mono hB.size); clear hC) | (go_at_call 8; refine (HAW.out _ (HM.out.below hB)).mono ?_; rintro e w9 ⟨rfl, hC9⟩; replace hB := hB.trans (hC9.mono hB.size); clear hC9))
    go_ret
    exact ⟨rfl, hB⟩
  | true =>
    go_upto_region 3 with (first | ((with_reducible refine holdLoad 24 rfl ?_); unfold Hold; refine wpList_loadB (vs := #[.string M, .string TG, .int .i64 X, .string RS, .slice mo H.length mc, .string B]) rfl rfl rfl Tryz.underlying24 (by kernel_rfl) bm (whole _) ?_) | (go_at_call 7; refine (HSM.out _ hB).mono ?_; rintro e w1 ⟨rfl, hC⟩; replace bm := bm.call hC; replace hB := hB.trans (hC.mono hB.size); clear hC))
    go_upto_region 4 with (first | ((with_reducible refine holdLoad 24 rfl ?_); unfold Hold; refine wpList_loadB (vs := #[.string M, .string TG, .int .i64 X, .string RS, .slice mo H.length mc, .string B]) rfl rfl rfl Tryz.underlying24 (by kernel_rfl) bm (whole _) ?_) | (go_at_call 9; refine (HRD.out _ hB).mono ?_; rintro e w3 ⟨xs, rfl, hr1, s1, o1, hC⟩; replace bm := bm.call hC; replace hB := hB.trans (hC.mono hB.size); clear hC; have k1 := hr1.cells7; clear hr1) | ((with_reducible refine holdStore 37 rfl ?_); unfold Hold; refine wpList_storeNew (vs := xs) rfl rfl rfl rfl (by rw [s1]; rfl) (by rw [s1]; rfl) o1 ?_; refine wpList_to (fun x => Blk x w.heap.size 24 #[.string M, .string TG, .int .i64 X, .string RS, .slice mo H.length mc, .string B] ∧ Blk x w3.heap.size 37 xs ∧ Below w.heap.size w x) ⟨bm.alloc _, Blk.new _ _ _, hB.alloc hB.size _⟩ ?_; clear bm hB; rintro w5 ⟨bm, b1, hB⟩))
    go_upto_region 5 with (first | ((with_reducible refine holdLoad 24 rfl ?_); unfold Hold; refine wpList_loadB (vs := #[.string M, .string TG, .int .i64 X, .string RS, .slice mo H.length mc, .string B]) rfl rfl rfl Tryz.underlying24 (by kernel_rfl) bm (whole _) ?_) | (go_at_call 12; refine (HBS.out _ hB).mono ?_; rintro e w4 ⟨ys, rfl, hr2, s2, o2, hC⟩; replace bm := bm.call hC; replace b1 := b1.call hC; replace hB := hB.trans (hC.mono hB.size); clear hC; have k2 := hr2.cells7; clear hr2) | ((with_reducible refine holdStore 37 rfl ?_); unfold Hold; refine wpList_storeNew (vs := ys) rfl rfl rfl rfl (by rw [s2]; rfl) (by rw [s2]; rfl) o2 ?_; refine wpList_to (fun x => Blk x w.heap.size 24 #[.string M, .string TG, .int .i64 X, .string RS, .slice mo H.length mc, .string B] ∧ Blk x w4.heap.size 37 ys ∧ Below w.heap.size w x ∧ Blk x w3.heap.size 37 xs) ⟨bm.alloc _, Blk.new _ _ _, hB.alloc hB.size _, b1.alloc _⟩ ?_; clear bm hB b1; rintro w6 ⟨bm, b2, hB, b1⟩))
    obtain ⟨x0, x7, x25, x26, x27, x28, x37⟩ := k1
    obtain ⟨y0, y7, y25, y26, y27, y28, y37⟩ := k2
    by_cases hec : ec = 0
    rotate_left
    · have tne : (ec != 0) = true := by simpa using hec
      have hR0 := HER.out hec
      rw [hR0] at x0
      have z0 : w6.cell? ⟨w3.heap.size, 0, none⟩ = some (.string ⟨#[]⟩) := (boxedCell b1 0).trans x0
      clear hec x0 x7 x25 x26 x27 x28 x37 y0 y7 y25 y26 y27 y28 y37
      go_wp2_with (go_at_call 8; refine (HAW.out _ (HM.out.below hB)).mono ?_; rintro e w9 ⟨rfl, hC9⟩; replace hB := hB.trans (hC9.mono hB.size); clear hC9)
      go_ret
      exact ⟨rfl, hB⟩
    obtain ⟨g0, g1, g2, g3, g4, g5, g6, g7, g8⟩ := HMO.out hec
    obtain ⟨q1, q2⟩ := HSQ.out g0
    subst hec
    subst g0
    rw [g1] at x0
    rw [g2] at x7
    rw [g5] at x25
    rw [g7] at x26
    rw [g3] at x27
    rw [g4] at x28
    rw [g8, HMB.out, bs_us] at x37
    rw [g5] at g6
    have pI : Q.fromT.isEmpty = false := by cases hh : Q.fromT with | nil => exact absurd hh g6 | cons => rfl
    obtain ⟨S0, hS0⟩ : ∃ x, x = bs Q.meth := ⟨_, rfl⟩
    obtain ⟨S7, hS7⟩ : ∃ x, x = bs Q.branch := ⟨_, rfl⟩
    obtain ⟨S26, hS26⟩ : ∃ x, x = bs Q.toT := ⟨_, rfl⟩
    obtain ⟨S27, hS27⟩ : ∃ x, x = bs Q.call := ⟨_, rfl⟩
    obtain ⟨qs, hqs⟩ : ∃ x, x = Q.seq := ⟨_, rfl⟩
    rw [← hS0] at x0 y0
    rw [← hS7] at x7 y7
    rw [← hS26] at x26 y26
    rw [← hS27] at x27 y27
    rw [← hqs] at x28 y28 q1 q2
    clear hS0 hS7 hS26 hS27 hqs g1 g2 g3 g4 g5 g6 g7 g8
    replace x0 := (boxedCell b1 0).trans x0
    replace y0 := (boxedCell b2 0).trans y0
    replace x7 := (boxedCell b1 7).trans x7
    replace y7 := (boxedCell b2 7).trans y7
    replace x25 := (boxedCell b1 25).trans x25
    replace y25 := (boxedCell b2 25).trans y25
    replace x26 := (boxedCell b1 26).trans x26
    replace y26 := (boxedCell b2 26).trans y26
    replace x27 := (boxedCell b1 27).trans x27
    replace y27 := (boxedCell b2 27).trans y27
    replace x28 := (boxedCell b1 28).trans x28
    replace y28 := (boxedCell b2 28).trans y28
    replace x37 := (boxedCell b1 37).trans x37
    replace y37 := (boxedCell b2 37).trans y37
    have m5 : w6.cell? ⟨w.heap.size, 5, none⟩ = some (.string B) := boxedCell bm 5
    go_wp2_with (go_at_call 8; refine (HAW.out _ (HM.out.below hB)).mono ?_; rintro e w9 ⟨rfl, hC9⟩; replace hB := hB.trans (hC9.mono hB.size); clear hC9)
    go_ret
    exact ⟨rfl, hB⟩

end Go.Proofs.YtgkilllbkljibaaGreatDoor
