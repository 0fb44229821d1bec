/-
  frame.All, One and the reference's.
-/
import Derived.Test.YtgpbnbaegghajaaDoorHdr
namespace Go.Proofs.YtgpbnbaegghajaaDoor
open Go.RowKit

theorem allS_step (H : List Hdr) (name : List UInt8) (k : Nat) (h : k < H.length) (L : List (List UInt8)) (hp : allS H name = L ++ allS (H.drop k) name) :
    allS H name = (if same H[k].name name = true then L ++ [H[k].value] else L) ++ allS (H.drop (k + 1)) name := by
  rw [hp, List.drop_eq_getElem_cons h]
  unfold allS
  rw [List.filter_cons]
  split <;> simp_all

set_option maxHeartbeats 3200000 in
theorem all_c' (M TG RS B : ByteArray) (X : Int) (u : Value) (H : List Hdr) (name : ByteArray) (hn : name.size ≤ 9223372036854775807) (w : World) (hu : RHdrs w u H) (hb : ∀ h ∈ H, h.name.length ≤ 9223372036854775807) (hH : H.length ≤ 4294967280) :
    Calls Tryd.prog 17 #[.agg #[.string M, .string TG, .int .i64 X, .string RS, u, .string B], .string name] w fun e w' => ∃ v, e = .returned v ∧ RStrs w' v (allS H (us name)) ∧ Below w.heap.size w w' := by
  obtain ⟨ao, cap, rfl, hm1, c1⟩ := hu.form
  have C1 := Lib.hid c1
  have HBD := Lib.hid hb
  clear c1 hu hb
  go_enter Tryd.func17, Tryd.ntmps17
  go_wp2
  obtain ⟨w0, hw0⟩ : ∃ w0, w0 = w.alloc (.cells #[.string M, .string TG, .int .i64 X, .string RS, .slice ao H.length cap, .string B] 25) := ⟨_, rfl⟩
  have hBw : Below w.heap.size w w0 := by rw [hw0]; exact (Below.refl _ _).alloc (Nat.le_refl _) _
  simp only [← hw0]
  clear hw0
  go_loopw [5, 11] (fun v i wr => ∃ (k : Nat) (L : List (List UInt8)), k ≤ H.length ∧ i = .int .i64 k ∧ Strs wr w0.heap.size 9 v L ∧ Below w0.heap.size w0 wr ∧ L.length ≤ k ∧ allS H (us name) = L ++ allS (H.drop k) (us name)) (fun _ i _ => H.length - (intOf i).toNat)
  case atStart => exact ⟨0, [], Nat.zero_le _, rfl, Strs.nil _ _ _, Below.refl _ _, Nat.le_refl _, rfl⟩
  case round =>
    obtain ⟨k, L, hk, rfl, hown, hB, hlk, hp⟩ := hrel
    have HP := Lib.hid hp; clear hp
    have hBr : Below w.heap.size w wr := hBw.trans (hB.mono hBw.size)
    by_cases hlt : k < H.length
    · obtain ⟨b, off, rfl, hb1, hc1⟩ := C1.out (by omega)
      have x0 : wr.cell? ⟨b, off + k * 2, none⟩ = some (.string (bs H[k].name)) := by
        rw [hBr.cell (p := ⟨b, off + k * 2, none⟩) hb1]; exact (hc1 k hlt).1
      have x1 : wr.cell? ⟨b, off + k * 2 + 1, none⟩ = some (.string (bs H[k].value)) := by
        rw [hBr.cell (p := ⟨b, off + k * 2 + 1, none⟩) hb1]; exact (hc1 k hlt).2
      have HS := Lib.hid (fun wx => same_c (bs H[k].name) name (by rw [size_bs]; exact HBD.out _ (List.getElem_mem _)) hn wx)
      rw [us_bs] at HS
      have hst := allS_step H (us name) k hlt L HP.out
      have k0 : (0 : Int) ≤ (k : Int) := by omega
      obtain ⟨N, hN⟩ : ∃ N, N = bs H[k].name := ⟨_, rfl⟩
      obtain ⟨V, hV⟩ : ∃ N, N = bs H[k].value := ⟨_, rfl⟩
      have hUV : us V = H[k].value := by rw [hV, us_bs]
      rw [← hN] at x0 HS
      rw [← hV] at x1
      have HUV := Lib.hid hUV
      clear hN hV hUV
      cases hs : same H[k].name (us name)
      · rw [hs] at HS hst
        have HN := Lib.hid hst
        clear hs hst
        go_wp2_with (go_at_call 43; refine (HS.out _).mono ?_; rintro e w2 ⟨rfl, hD⟩; obtain ⟨b14, hC2, _⟩ := newCall hD.below)
        go_roundw
        case rel => exact ⟨k + 1, L, by omega, by go_num, hown.below hC2 (Nat.le_refl _), hB.trans (hC2.mono hB.size), by omega, HN.out⟩
        case measure => simp [intOf]; omega
      · rw [hs] at HS hst
        have HN := Lib.hid hst
        clear hs hst
        go_wp2_with (first | (go_at_call 43; refine (HS.out _).mono ?_; rintro e w2 ⟨rfl, hD⟩; obtain ⟨b14, hC2, _⟩ := newCall hD.below; obtain ⟨n0, n1, _, _, _⟩ := b14.f2; have hown2 := hown.below hC2 (Nat.le_refl _); have hB2 := hB.trans (hC2.mono hB.size)) | (at_builtin; refine wpList_appS1 _ HUV.out rfl rfl Tryd.underlying38 infoS rfl rfl hown2 hB2 (Nat.le_refl _) ?_ ?_; (focus omega); intro v1 w3 ho1 hb1))
        go_roundw
        case rel => exact ⟨k + 1, _, by omega, by go_num, ho1, hb1, by rw [List.length_append]; simp; omega, HN.out⟩
        case measure => simp [intOf]; omega
    · have HE := Lib.hid (show allS H (us name) = L by rw [HP.out, List.drop_eq_nil_iff.2 (by omega)]; simp [allS])
      go_wp2
      go_ret
      exact ⟨_, rfl, by rw [HE.out]; exact hown.read, hBr⟩

set_option maxHeartbeats 3200000 in
theorem allR_c' (M TG RS B : ByteArray) (X : Int) (u : Value) (H : List Hdr) (name : ByteArray) (hn : name.size ≤ 140737488355328) (w : World) (hu : RHdrs w u H) (hb : ∀ h ∈ H, h.name.length ≤ 140737488355328) (hH : H.length ≤ 4294967280) :
    Calls Tryd.prog 18 #[.agg #[.string M, .string TG, .int .i64 X, .string RS, u, .string B], .string name] w fun e w' => ∃ v, e = .returned v ∧ RStrs w' v (allS H (us name)) ∧ Below w.heap.size w w' := by
  obtain ⟨ao, cap, rfl, hm1, c1⟩ := hu.form
  have C1 := Lib.hid c1
  have HBD := Lib.hid hb
  clear c1 hu hb
  go_enter Tryd.func18, Tryd.ntmps18
  go_wp2
  obtain ⟨w0, hw0⟩ : ∃ w0, w0 = w.alloc (.cells #[.string M, .string TG, .int .i64 X, .string RS, .slice ao H.length cap, .string B] 25) := ⟨_, rfl⟩
  have hBw : Below w.heap.size w w0 := by rw [hw0]; exact (Below.refl _ _).alloc (Nat.le_refl _) _
  have bm : Blk w0 w.heap.size 25 #[.string M, .string TG, .int .i64 X, .string RS, .slice ao H.length cap, .string B] := by rw [hw0]; exact Blk.new _ _ _
  have M4 := Lib.hid (fun (wx : World) (h : Below w0.heap.size w0 wx) => (boxedCell (bm.call h) 4 : wx.cell? ⟨w.heap.size, 4, none⟩ = some (.slice ao H.length cap)))
  simp only [← hw0]
  clear hw0 bm
  go_loopw [5, 6] (fun v i wr => ∃ (k : Nat) (L : List (List UInt8)), k ≤ H.length ∧ i = .int .i64 k ∧ Strs wr w0.heap.size 9 v L ∧ Below w0.heap.size w0 wr ∧ L.length ≤ k ∧ allS H (us name) = L ++ allS (H.drop k) (us name)) (fun _ i _ => H.length - (intOf i).toNat)
  case atStart => exact ⟨0, [], Nat.zero_le _, rfl, Strs.nil _ _ _, Below.refl _ _, Nat.le_refl _, rfl⟩
  case round =>
    obtain ⟨k, L, hk, rfl, hown, hB, hlk, hp⟩ := hrel
    have HP := Lib.hid hp; clear hp
    have m4 := M4.out wr hB
    have hBr : Below w.heap.size w wr := hBw.trans (hB.mono hBw.size)
    by_cases hlt : k < H.length
    · obtain ⟨b, off, rfl, hb1, hc1⟩ := C1.out (by omega)
      have x0 : wr.cell? ⟨b, off + k * 2, none⟩ = some (.string (bs H[k].name)) := by
        rw [hBr.cell (p := ⟨b, off + k * 2, none⟩) hb1]; exact (hc1 k hlt).1
      have x1 : wr.cell? ⟨b, off + k * 2 + 1, none⟩ = some (.string (bs H[k].value)) := by
        rw [hBr.cell (p := ⟨b, off + k * 2 + 1, none⟩) hb1]; exact (hc1 k hlt).2
      have XV := Lib.hid (fun (wx : World) (h : Below wr.heap.size wr wx) => (show wx.cell? ⟨b, off + k * 2 + 1, none⟩ = some (.string (bs H[k].value)) from by rw [h.cell (p := ⟨b, off + k * 2 + 1, none⟩) (Nat.lt_of_lt_of_le hb1 hBr.size)]; exact x1))
      have HS := Lib.hid (fun wx => sameR_c (bs H[k].name) name (by rw [size_bs]; exact HBD.out _ (List.getElem_mem _)) hn wx)
      rw [us_bs] at HS
      have hst := allS_step H (us name) k hlt L HP.out
      have k0 : (0 : Int) ≤ (k : Int) := by omega
      obtain ⟨N, hN⟩ : ∃ N, N = bs H[k].name := ⟨_, rfl⟩
      obtain ⟨V, hV⟩ : ∃ N, N = bs H[k].value := ⟨_, rfl⟩
      have hUV : us V = H[k].value := by rw [hV, us_bs]
      rw [← hN] at x0 HS
      rw [← hV] at x1 XV
      have HUV := Lib.hid hUV
      clear hN hV hUV
      cases hs : same H[k].name (us name)
      · rw [hs] at HS hst
        have HN := Lib.hid hst
        clear hs hst
        go_wp2_with (go_at_call 44; refine (HS.out _).mono ?_; rintro e w2 ⟨rfl, hC2⟩; have m4 := M4.out w2 (hB.trans (hC2.mono hB.size)))
        go_roundw
        case rel => exact ⟨k + 1, L, by omega, by go_num, hown.below hC2 (Nat.le_refl _), hB.trans (hC2.mono hB.size), by omega, HN.out⟩
        case measure => simp [intOf]; omega
      · rw [hs] at HS hst
        have HN := Lib.hid hst
        clear hs hst
        go_wp2_with (first | (go_at_call 44; refine (HS.out _).mono ?_; rintro e w2 ⟨rfl, hC2⟩; have m4 := M4.out w2 (hB.trans (hC2.mono hB.size)); have y1 := XV.out w2 hC2; have hown2 := hown.below hC2 (Nat.le_refl _); have hB2 := hB.trans (hC2.mono hB.size)) | (at_builtin; refine wpList_appS1 _ HUV.out rfl rfl Tryd.underlying38 infoS rfl rfl hown2 hB2 (Nat.le_refl _) ?_ ?_; (focus omega); intro v1 w3 ho1 hb1))
        go_roundw
        case rel => exact ⟨k + 1, _, by omega, by go_num, ho1, hb1, by rw [List.length_append]; simp; omega, HN.out⟩
        case measure => simp [intOf]; omega
    · have HE := Lib.hid (show allS H (us name) = L by rw [HP.out, List.drop_eq_nil_iff.2 (by omega)]; simp [allS])
      go_wp2
      go_ret
      exact ⟨_, rfl, by rw [HE.out]; exact hown.read, hBr⟩

set_option maxHeartbeats 1600000 in
theorem one_c' (M TG RS B : ByteArray) (X : Int) (u : Value) (H : List Hdr) (name : ByteArray) (hn : name.size ≤ 140737488355328) (w : World) (hu : RHdrs w u H) (hb : ∀ h ∈ H, h.name.length ≤ 140737488355328) (hH : H.length ≤ 4294967280) :
    Calls Tryd.prog 14 #[.agg #[.string M, .string TG, .int .i64 X, .string RS, u, .string B], .string name] w fun e w' => e = .returned (.tuple #[.string (bs (oneS H (us name)).1), .bool (oneS H (us name)).2]) ∧ Below w.heap.size w w' := by
  have HU := Lib.hid hu
  obtain ⟨ao, cap, rfl, _, _⟩ := hu.form
  have hBw : Below w.heap.size w (w.alloc (.cells #[.string M, .string TG, .int .i64 X, .string RS, .slice ao H.length cap, .string B] 25)) := (Below.refl _ _).alloc (Nat.le_refl _) _
  have HA := Lib.hid (all_c' M TG RS B X (.slice ao H.length cap) H name (by omega) (w.alloc (.cells #[.string M, .string TG, .int .i64 X, .string RS, .slice ao H.length cap, .string B] 25)) (hu.below hBw (Nat.le_refl _)) (fun h hh => by have := hb h hh; omega) hH)
  have h1 : oneS H (us name) = match allS H (us name) with | [x] => (x, true) | _ => ([], false) := rfl
  obtain ⟨L, hL⟩ : ∃ L, L = allS H (us name) := ⟨_, rfl⟩
  rw [← hL] at HA h1
  have H1 := Lib.hid h1
  clear hu hb hL h1
  match L, HA, H1 with
  | [], HA, H1 =>
    go_enter Tryd.func14, Tryd.ntmps14
    go_wp2_with (go_at_call 17; refine HA.out.mono ?_; rintro e w2 ⟨v, rfl, hv, hC⟩; obtain ⟨ao2, cap2, rfl⟩ : ∃ ao cap, v = .slice ao 0 cap := (by rcases hv.cases with ⟨h, _⟩ | ⟨b, off, cap, h, _⟩ <;> first | exact h | exact ⟨_, _, h⟩))
    go_ret2
    exact ⟨by rw [H1.out]; rfl, hBw.trans (hC.mono hBw.size)⟩
  | [x], HA, H1 =>
    go_enter Tryd.func14, Tryd.ntmps14
    go_wp2_with (go_at_call 17; refine HA.out.mono ?_; rintro e w2 ⟨v, rfl, hv, hC⟩; rcases hv.cases with ⟨_, h0⟩ | ⟨b, off, cap2, rfl, hcap, hmx, hlt, hcl⟩; (focus cases h0); have x0 : w2.cell? ⟨b, off, none⟩ = some (.string (bs x)) := hcl 0 (by simp))
    go_ret2
    exact ⟨by rw [H1.out]; rfl, hBw.trans (hC.mono hBw.size)⟩
  | x :: y :: r, HA, H1 =>
    have lz : (((r.length : Int) + 1 + 1) != 1) = true := by simp; omega
    go_enter Tryd.func14, Tryd.ntmps14
    go_wp2_with (go_at_call 17; refine HA.out.mono ?_; rintro e w2 ⟨v, rfl, hv, hC⟩; rcases hv.cases with ⟨_, h0⟩ | ⟨b, off, cap2, rfl, hcap, hmx, hlt, hcl⟩; (focus cases h0))
    go_ret2
    exact ⟨by rw [H1.out]; rfl, hBw.trans (hC.mono hBw.size)⟩

set_option maxHeartbeats 1600000 in
theorem oneR_c' (M TG RS B : ByteArray) (X : Int) (u : Value) (H : List Hdr) (name : ByteArray) (hn : name.size ≤ 140737488355328) (w : World) (hu : RHdrs w u H) (hb : ∀ h ∈ H, h.name.length ≤ 140737488355328) (hH : H.length ≤ 4294967280) :
    Calls Tryd.prog 15 #[.agg #[.string M, .string TG, .int .i64 X, .string RS, u, .string B], .string name] w fun e w' => e = .returned (.tuple #[.string (bs (oneS H (us name)).1), .bool (oneS H (us name)).2]) ∧ Below w.heap.size w w' := by
  have HU := Lib.hid hu
  obtain ⟨ao, cap, rfl, _, _⟩ := hu.form
  have hBw : Below w.heap.size w (w.alloc (.cells #[.string M, .string TG, .int .i64 X, .string RS, .slice ao H.length cap, .string B] 25)) := (Below.refl _ _).alloc (Nat.le_refl _) _
  have HA := Lib.hid (allR_c' M TG RS B X (.slice ao H.length cap) H name (by omega) (w.alloc (.cells #[.string M, .string TG, .int .i64 X, .string RS, .slice ao H.length cap, .string B] 25)) (hu.below hBw (Nat.le_refl _)) (fun h hh => by have := hb h hh; omega) hH)
  have h1 : oneS H (us name) = match allS H (us name) with | [x] => (x, true) | _ => ([], false) := rfl
  obtain ⟨L, hL⟩ : ∃ L, L = allS H (us name) := ⟨_, rfl⟩
  rw [← hL] at HA h1
  have H1 := Lib.hid h1
  clear hu hb hL h1
  match L, HA, H1 with
  | [], HA, H1 =>
    go_enter Tryd.func15, Tryd.ntmps15
    go_wp2_with (go_at_call 18; refine HA.out.mono ?_; rintro e w2 ⟨v, rfl, hv, hC⟩; obtain ⟨ao2, cap2, rfl⟩ : ∃ ao cap, v = .slice ao 0 cap := (by rcases hv.cases with ⟨h, _⟩ | ⟨b, off, cap, h, _⟩ <;> first | exact h | exact ⟨_, _, h⟩))
    go_ret2
    exact ⟨by rw [H1.out]; rfl, hBw.trans (hC.mono hBw.size)⟩
  | [x], HA, H1 =>
    go_enter Tryd.func15, Tryd.ntmps15
    go_wp2_with (go_at_call 18; refine HA.out.mono ?_; rintro e w2 ⟨v, rfl, hv, hC⟩; rcases hv.cases with ⟨_, h0⟩ | ⟨b, off, cap2, rfl, hcap, hmx, hlt, hcl⟩; (focus cases h0); have x0 : w2.cell? ⟨b, off, none⟩ = some (.string (bs x)) := hcl 0 (by simp))
    go_ret2
    exact ⟨by rw [H1.out]; rfl, hBw.trans (hC.mono hBw.size)⟩
  | x :: y :: r, HA, H1 =>
    have lz : (((r.length : Int) + 1 + 1) != 1) = true := by simp; omega
    go_enter Tryd.func15, Tryd.ntmps15
    go_wp2_with (go_at_call 18; refine HA.out.mono ?_; rintro e w2 ⟨v, rfl, hv, hC⟩; rcases hv.cases with ⟨_, h0⟩ | ⟨b, off, cap2, rfl, hcap, hmx, hlt, hcl⟩; (focus cases h0))
    go_ret2
    exact ⟨by rw [H1.out]; rfl, hBw.trans (hC.mono hBw.size)⟩

end Go.Proofs.YtgpbnbaegghajaaDoor
