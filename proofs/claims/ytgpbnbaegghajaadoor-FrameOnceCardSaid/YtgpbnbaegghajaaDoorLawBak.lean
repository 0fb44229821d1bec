/-
  The law FrameBack: the walk.
-/
import Derived.Test.YtgpbnbaegghajaaDoorPrr
import Derived.Test.YtgpbnbaegghajaaDoorSmall6
import Derived.Test.YtgpbnbaegghajaaDoorStp
import Derived.Test.YtgpbnbaegghajaaDoorByt
import Derived.Test.YtgpbnbaegghajaaDoorSam
namespace Go.Proofs.YtgpbnbaegghajaaDoor
open Go.RowKit

theorem printM_cases (m : Mg) : ((printM m).1 = [] ∧ (printM m).2 ≠ 0) ∨ (printM m = (textM m, 0) ∧ checkS m = 0 ∧ (textM m).length ≤ 4096) := by
  unfold printM
  by_cases h : checkS m = 0
  · rw [if_neg (fun e => e h)]
    by_cases h2 : 4096 < (textM m).length
    · rw [if_pos h2]; exact .inl ⟨rfl, by decide⟩
    · rw [if_neg h2]; exact .inr ⟨rfl, h, by omega⟩
  · rw [if_pos h]; exact .inl ⟨rfl, h⟩
set_option maxRecDepth 100000 in
set_option maxHeartbeats 12800000 in
theorem frameBack_walk (M TG RS B : ByteArray) (X : Int) (u : Value) (H : List Hdr) (h1 : M.size ≤ 1048576) (h2 : TG.size ≤ 1048576) (h3 : RS.size ≤ 1048576) (h4 : B.size ≤ 1048576) (hH : H.length ≤ 1048576)
    (hb : ∀ h ∈ H, h.name.length ≤ 1048576 ∧ h.value.length ≤ 1048576) (X0 : -9223372036854775808 ≤ X) (X1 : X ≤ 9223372036854775807) (yo : Option Addr) (n yc : Nat) (Y : ByteArray) (hn : n = Y.size) (hY : Y.size ≤ 140737488355328) (w : World) (hm : Ml w) (hu : RHdrs w u H) (hy : RByt Tryd.prog 22 w (.slice yo n yc) Y) :
    Calls Tryd.prog 6 #[.agg #[.string M, .string TG, .int .i64 X, .string RS, u, .string B], .slice yo n yc] w fun e w' => e = .returned (.bool true) ∧ Below w.heap.size w w' := by
  have HM := Lib.hid hm
  have HU := Lib.hid hu
  obtain ⟨ao, cap, rfl, _, _⟩ := hu.form
  have HW := Lib.hid (fun wx hx => awake_c wx hx)
  have HS := Lib.hid (fun wx hx => small_c M TG RS B X (.slice ao H.length cap) H h1 h2 h3 h4 hH hb wx hx)
  obtain ⟨b, hbb⟩ : ∃ b, b = decide (size4 M TG RS B + sumH H ≤ 20000) := ⟨_, rfl⟩
  rw [← hbb] at HS
  subst hn
  have HY := Lib.hid (fun wx (hx : Below w.heap.size w wx) => hy wx hx 9 Tryd.underlying9)
  have HN := Lib.hid (fun (wx : World) => run_convert_bytes_nil (P := Tryd.prog) wx 22 5 Tryd.underlying22 Tryd.underlying5 0 0 9 Tryd.underlying9)
  have HP := Lib.hid (fun wx hx => printF_c M TG RS B X (.slice ao H.length cap) H (by omega) (by omega) (by omega) (by omega) X0 X1 wx hx (fun h hh => by have := hb h hh; omega))
  have hpc := printM_cases ⟨us M, us TG, X, us RS, H, us B⟩
  have hpp := parse_print ⟨us M, us TG, X, us RS, H, us B⟩
  obtain ⟨m, hmd⟩ : ∃ m : Mg, m = ⟨us M, us TG, X, us RS, H, us B⟩ := ⟨_, rfl⟩
  rw [← hmd] at HP hpc hpp
  have HQ := Lib.hid (fun (s : ByteArray) (hs : s.size ≤ 4096) wx hx => parse_c s (by omega) wx hx)
  unfold ParsePost at HQ
  have HSm := Lib.hid (fun wx v (h1 : RHdrs wx (.slice ao H.length cap) H) (h2 : RHdrs wx v H) => (show Calls Tryd.prog 11 #[.agg #[.string M, .string TG, .int .i64 X, .string RS, .slice ao H.length cap, .string B], .agg #[.string M, .string TG, .int .i64 X, .string RS, v, .string B]] wx fun e w' => e = .returned (.bool true) ∧ Below wx.heap.size wx w' from by have := sameM_c (.slice ao H.length cap) v ⟨us M, us TG, X, us RS, H, us B⟩ ⟨us M, us TG, X, us RS, H, us B⟩ wx h1 h2; rw [beq_self_eq_true] at this; unfold mgv sv at this; simp only [bs_us] at this; exact this))
  have HMV := Lib.hid (fun v => show mgv m v = .agg #[.string M, .string TG, .int .i64 X, .string RS, v, .string B] by rw [hmd]; unfold mgv sv; simp only [bs_us])
  have HMH := Lib.hid (show m.hdrs = H by rw [hmd])
  clear hbb hmd hu hm hb
  have hBw : Below w.heap.size w (w.alloc (.cells #[.string M, .string TG, .int .i64 X, .string RS, .slice ao H.length cap, .string B] 25)) := (Below.refl _ _).alloc (Nat.le_refl _) _
  have bm0 : Blk (w.alloc (.cells #[.string M, .string TG, .int .i64 X, .string RS, .slice ao H.length cap, .string B] 25)) w.heap.size 25 #[.string M, .string TG, .int .i64 X, .string RS, .slice ao H.length cap, .string B] := Blk.new _ _ _
  obtain ⟨w0, hw0⟩ : ∃ w0, w0 = (w.alloc (.cells #[.string M, .string TG, .int .i64 X, .string RS, .slice ao H.length cap, .string B] 25)) := ⟨_, rfl⟩
  have HX := Lib.hid (fun (wx : World) (h : Below w0.heap.size w0 wx) => (show Blk wx w.heap.size 25 #[.string M, .string TG, .int .i64 X, .string RS, .slice ao H.length cap, .string B] ∧ Below w.heap.size w wx ∧ Ml wx ∧ RHdrs wx (.slice ao H.length cap) H from by
    subst hw0
    have hx := hBw.trans (h.mono hBw.size)
    exact ⟨bm0.call h, hx, HM.out.below hx, HU.out.below hx (Nat.le_refl _)⟩))
  cases b
  · go_enter Tryd.func6, Tryd.ntmps6
    go_wp2_with (first | (go_at_call 13; rw [← hw0]; refine (HS.out _ (HX.out w0 (Below.refl _ _)).2.2.2).mono ?_; rintro e w1 ⟨rfl, hC1⟩; have hZ := hC1; obtain ⟨bm, hBB, hMM, hUU⟩ := HX.out _ hZ; obtain ⟨p0, p1, p2, p3, p4, p5⟩ := bm.f6) | (go_at_call 12; refine (HW.out _ hMM).mono ?_; rintro e wz ⟨rfl, hCz⟩))
    go_ret
    exact ⟨rfl, hBB.trans (hCz.mono hBB.size)⟩
  · rcases hpc with ⟨q1, q2⟩ | ⟨q1, q2, q3⟩
    · rw [q1] at HP
      obtain ⟨C, hC⟩ : ∃ C, C = (printM m).2 := ⟨_, rfl⟩
      rw [← hC] at HP q2
      have t0 : (C != 0) = true := by simpa using q2
      have hE : bs [] = ⟨#[]⟩ := rfl
      rw [hE] at HP
      clear hE hC q1 hpp
      go_enter Tryd.func6, Tryd.ntmps6
      go_wp2_with (first | (go_at_call 13; rw [← hw0]; refine (HS.out _ (HX.out w0 (Below.refl _ _)).2.2.2).mono ?_; rintro e w1 ⟨rfl, hC1⟩; have hZ := hC1; obtain ⟨bm, hBB, hMM, hUU⟩ := HX.out _ hZ; obtain ⟨p0, p1, p2, p3, p4, p5⟩ := bm.f6) | (go_at_call 19; refine (HP.out _ hUU).mono ?_; rintro e w2 ⟨rfl, hC2⟩; have hZ := hZ.trans (hC2.mono hZ.size); obtain ⟨bm, hBB, hMM, hUU⟩ := HX.out _ hZ; obtain ⟨p0, p1, p2, p3, p4, p5⟩ := bm.f6) | (go_at_call 12; refine (HW.out _ hMM).mono ?_; rintro e wz ⟨rfl, hCz⟩))
      go_ret
      exact ⟨rfl, hBB.trans (hCz.mono hBB.size)⟩
    · rw [q1] at HP
      dsimp only at HP
      have hpp := hpp q2
      obtain ⟨TX, hTX⟩ : ∃ TX, TX = bs (textM m) := ⟨_, rfl⟩
      have uT : us TX = textM m := by rw [hTX, us_bs]
      rw [← hTX] at HP
      rw [← uT] at hpp q3
      rw [length_us] at q3
      clear hTX uT q1 q2
      by_cases hlen : (4096 : Int) - (TX.size : Int) < (Y.size : Int)
      · have hp0 := hpp [] (by rw [List.append_nil, length_us]; omega)
        rw [List.append_nil] at hp0
        have HQ := Lib.hid (HQ.out TX q3)
        rw [hp0] at HQ
        dsimp only at HQ
        rw [HMH.out] at HQ
        have e0 : TX ++ ByteArray.empty = TX := by apply us_inj; rw [us_append]; simp [us]
        have e0' : TX ++ ⟨#[]⟩ = TX := e0
        clear hpp hp0
        go_enter Tryd.func6, Tryd.ntmps6
        go_wp2_with (first | (go_at_call 13; rw [← hw0]; refine (HS.out _ (HX.out w0 (Below.refl _ _)).2.2.2).mono ?_; rintro e w1 ⟨rfl, hC1⟩; have hZ := hC1; obtain ⟨bm, hBB, hMM, hUU⟩ := HX.out _ hZ; obtain ⟨p0, p1, p2, p3, p4, p5⟩ := bm.f6) | (go_at_call 19; refine (HP.out _ hUU).mono ?_; rintro e w2 ⟨rfl, hC2⟩; have hZ := hZ.trans (hC2.mono hZ.size); obtain ⟨bm, hBB, hMM, hUU⟩ := HX.out _ hZ; obtain ⟨p0, p1, p2, p3, p4, p5⟩ := bm.f6; have hN := HN.out w2) | (go_at_call 9; (try (first | rw [e0] | rw [e0'])); refine (HQ.out _ hMM).mono ?_; rintro e w3 ⟨v, rfl, hv, _, hC3⟩; obtain ⟨a1, c1, rfl, _, _⟩ := hv.form; rw [HMV.out]; have hZ := (hZ.trans (hC3.mono hZ.size)).alloc (hZ.trans (hC3.mono hZ.size)).size (.cells #[.string M, .string TG, .int .i64 X, .string RS, .slice a1 H.length c1, .string B] 25); obtain ⟨bm, hBB, hMM, hUU⟩ := HX.out _ hZ; obtain ⟨p0, p1, p2, p3, p4, p5⟩ := bm.f6; have hv1 := hv.below ((Below.refl _ _).alloc (Nat.le_refl _) (.cells #[.string M, .string TG, .int .i64 X, .string RS, .slice a1 H.length c1, .string B] 25)) (Nat.le_refl _); obtain ⟨q0, q1, q2, q3', q4, q5⟩ := (Blk.new w3 25 #[.string M, .string TG, .int .i64 X, .string RS, .slice a1 H.length c1, .string B]).f6) | (go_at_call 11; refine (HSm.out _ _ hUU hv1).mono ?_; rintro e w4 ⟨rfl, hC4⟩; have hZ := hZ.trans (hC4.mono hZ.size); obtain ⟨bm, hBB, hMM, hUU⟩ := HX.out _ hZ; obtain ⟨p0, p1, p2, p3, p4, p5⟩ := bm.f6) | (go_at_call 12; refine (HW.out _ hMM).mono ?_; rintro e wz ⟨rfl, hCz⟩))
        go_ret
        exact ⟨rfl, hBB.trans (hCz.mono hBB.size)⟩
      · have hp0 := hpp (us Y) (by rw [List.length_append, length_us, length_us]; omega)
        rw [← us_append] at hp0
        have hsz : (TX ++ Y).size ≤ 4096 := by rw [← length_us, us_append, List.length_append, length_us, length_us]; omega
        have hYs : Y.size ≤ 4096 := by omega
        have HQ := Lib.hid (HQ.out (TX ++ Y) hsz)
        rw [hp0] at HQ
        dsimp only at HQ
        rw [HMH.out] at HQ
        clear hpp hp0
        go_enter Tryd.func6, Tryd.ntmps6
        go_wp2_with (first | (go_at_call 13; rw [← hw0]; refine (HS.out _ (HX.out w0 (Below.refl _ _)).2.2.2).mono ?_; rintro e w1 ⟨rfl, hC1⟩; have hZ := hC1; obtain ⟨bm, hBB, hMM, hUU⟩ := HX.out _ hZ; obtain ⟨p0, p1, p2, p3, p4, p5⟩ := bm.f6) | (go_at_call 19; refine (HP.out _ hUU).mono ?_; rintro e w2 ⟨rfl, hC2⟩; have hZ := hZ.trans (hC2.mono hZ.size); obtain ⟨bm, hBB, hMM, hUU⟩ := HX.out _ hZ; obtain ⟨p0, p1, p2, p3, p4, p5⟩ := bm.f6; have hN := HY.out w2 hBB) | (go_at_call 9; refine (HQ.out _ hMM).mono ?_; rintro e w3 ⟨v, rfl, hv, _, hC3⟩; obtain ⟨a1, c1, rfl, _, _⟩ := hv.form; rw [HMV.out]; have hZ := (hZ.trans (hC3.mono hZ.size)).alloc (hZ.trans (hC3.mono hZ.size)).size (.cells #[.string M, .string TG, .int .i64 X, .string RS, .slice a1 H.length c1, .string B] 25); obtain ⟨bm, hBB, hMM, hUU⟩ := HX.out _ hZ; obtain ⟨p0, p1, p2, p3, p4, p5⟩ := bm.f6; have hv1 := hv.below ((Below.refl _ _).alloc (Nat.le_refl _) (.cells #[.string M, .string TG, .int .i64 X, .string RS, .slice a1 H.length c1, .string B] 25)) (Nat.le_refl _); obtain ⟨q0, q1, q2, q3', q4, q5⟩ := (Blk.new w3 25 #[.string M, .string TG, .int .i64 X, .string RS, .slice a1 H.length c1, .string B]).f6) | (go_at_call 11; refine (HSm.out _ _ hUU hv1).mono ?_; rintro e w4 ⟨rfl, hC4⟩; have hZ := hZ.trans (hC4.mono hZ.size); obtain ⟨bm, hBB, hMM, hUU⟩ := HX.out _ hZ; obtain ⟨p0, p1, p2, p3, p4, p5⟩ := bm.f6) | (go_at_call 12; refine (HW.out _ hMM).mono ?_; rintro e wz ⟨rfl, hCz⟩))
        go_ret
        exact ⟨rfl, hBB.trans (hCz.mono hBB.size)⟩

end Go.Proofs.YtgpbnbaegghajaaDoor
