/-
  The law FrameFolds: the walk.
-/
import Derived.Test.YtgpbnbaegghajaaDoorPrt
import Derived.Test.YtgpbnbaegghajaaDoorSmall6
import Derived.Test.YtgpbnbaegghajaaDoorSam
import Derived.Test.YtgpbnbaegghajaaDoorFrF
import Derived.Test.YtgpbnbaegghajaaDoorStp
namespace Go.Proofs.YtgpbnbaegghajaaDoor
open Go.RowKit


section
variable {P : Program} {ops : Array Oper} {o : Oper} {a : Act} {Q : Exit → Act → World → Prop}
/-- a call of one argument that hands back some value, as an operation of a region that draws its order -/
theorem step_wX1 {K : Act → World → Prop} {w : World} {E : Prop} {R : Value → World → Prop} {f : FuncId} {x : Operand} {ts : Array TypeId} {v0 : Value}
    (hw : Region.wanted o (yielded ops a.tmps) = true) (ho : o.op = .call { callee := .value (.func f), args := #[x], argTypes := ts }) {fn : Func} (hf : P.funcs[f]? = some fn) (hnm : (fn.name == "runtime.NumGoroutine") = false) (hbd : fn.body.isNone = false)
    (hx : a.eval x = v0) (hC : Calls P f #[v0] w fun e w' => ∃ v, e = .returned v ∧ R v w') (hK : ∀ v w', R v w' → K (a.put o.dst v) w') :
    if Region.wanted o (yielded ops a.tmps) = true then Oper.wp P o a w K Q else E := by
  rw [if_pos hw]
  unfold Oper.wp
  have h1 : fn.name ≠ "runtime.NumGoroutine" := by simpa using hnm
  have h2 : fn.body ≠ none := by intro e; rw [e] at hbd; cases hbd
  have hrun : (execOp a.eval o).run P w = .ok (.enter f #[v0]) w := by
    subst hx
    simp [execOp, ho, resolve, Deferred.ofValue, invoke, callFunc, Act.eval, hf, h1, h2, Result.andThen]
  rw [hrun]
  refine hC.mono ?_
  rintro e w' ⟨v, rfl, hR⟩
  exact hK v w' hR
end
theorem printM_casesF (m : Mg) : ((printM m).1 = [] ∧ (printM m).2 ≠ 0) ∨ (printM m = (textM m, 0) ∧ checkS m = 0 ∧ (textM m).length ≤ 4096) := by
  unfold printM
  by_cases h : checkS m = 0
  · rw [if_neg (fun e => e h)]
    by_cases h2 : 4096 < (textM m).length
    · rw [if_pos h2]; exact .inl ⟨rfl, by decide⟩
    · rw [if_neg h2]; exact .inr ⟨rfl, h, by omega⟩
  · rw [if_pos h]; exact .inl ⟨rfl, h⟩
theorem nmPa : (Tryd.f9.name == "runtime.NumGoroutine") = false := by kernel_rfl
theorem bdPa : Tryd.f9.body.isNone = false := by kernel_rfl
theorem blank_no (c : UInt8) (h : c.toNat ≠ 32) (h2 : c.toNat ≠ 9) : blank c = false := by
  have := all_bytes (fun c => c.toNat ≠ 32 → c.toNat ≠ 9 → blank c = false) (by decide +kernel) c
  exact this h h2
theorem val_at (V : ByteArray) (l : List UInt8) (h : V = bs l) (i : Nat) (h1 : i < V.size) (h2 : i < l.length) : l[i] = V[i] := by
  have h3 := get_us V i h1
  rw [show us V = l by rw [h, us_bs], List.getElem?_eq_getElem h2] at h3
  injection h3
theorem RHdrs.cap {w : World} {ao : Option Addr} {n cap : Nat} {L : List Hdr} (h : RHdrs w (.slice ao n cap) L) (h0 : 0 < L.length) : L.length ≤ cap := by
  rcases h with ⟨_, rfl⟩ | ⟨b, off, c, e, h1, h2, h3, h4⟩
  · simp at h0
  · injection e with e1 e2 e3; omega
theorem RHdrs.takeS {w : World} {ao : Option Addr} {n cap : Nat} {L : List Hdr} (h : RHdrs w (.slice ao n cap) L) (k : Nat) (hk : k ≤ n) : RHdrs w (.slice ao k cap) (L.take k) := by
  rcases h with ⟨⟨a, c, e⟩, rfl⟩ | ⟨b, off, c, e, h1, h2, h3, h4⟩
  · injection e with e1 e2 e3
    have : k = 0 := by omega
    subst this
    exact .inl ⟨⟨_, _, rfl⟩, rfl⟩
  · injection e with e1 e2 e3
    subst e1 e3
    rcases Nat.eq_zero_or_pos k with h0 | h0
    · subst h0
      exact .inl ⟨⟨_, _, rfl⟩, by simp⟩
    · refine .inr ⟨b, off, cap, by rw [List.length_take, Nat.min_eq_left (by omega)], by rw [List.length_take]; omega, h2, h3, fun j hj => ?_⟩
      rw [List.length_take] at hj
      rw [List.getElem_take]
      exact h4 j (by omega)

set_option maxRecDepth 100000 in
set_option maxHeartbeats 12800000 in
theorem frameFolds_walk (M TG RS B : ByteArray) (X : Int) (u : Value) (H : List Hdr) (h1 : M.size ≤ 1048576) (h2 : TG.size ≤ 1048576) (h3 : RS.size ≤ 1048576) (h4 : B.size ≤ 1048576) (hH : H.length ≤ 1048576)
    (hb : ∀ h ∈ H, h.name.length ≤ 1048576 ∧ h.value.length ≤ 1048576) (X0 : -9223372036854775808 ≤ X) (X1 : X ≤ 9223372036854775807) (A : Int) (A0 : 0 ≤ A) (A1 : A ≤ 18446744073709551615) (E : Int) (E0 : 0 ≤ E) (E1 : E ≤ 18446744073709551615) (w : World) (hm : Ml w) (hu : RHdrs w u H) :
    Calls Tryd.prog 8 #[.agg #[.string M, .string TG, .int .i64 X, .string RS, u, .string B], .int .u64 A, .int .u64 E] w fun e w' => e = .returned (.bool true) ∧ Below w.heap.size w w' := by
  have HM := Lib.hid hm
  have HU := Lib.hid hu
  obtain ⟨ao, cap, rfl, _, _⟩ := hu.form
  have HW := Lib.hid (fun wx hx => awake_c wx hx)
  have HS := Lib.hid (fun wx hx => small_c M TG RS B X (.slice ao H.length cap) H h1 h2 h3 h4 hH hb wx hx)
  obtain ⟨b, hbb⟩ : ∃ b, b = decide (size4 M TG RS B + sumH H ≤ 20000) := ⟨_, rfl⟩
  rw [← hbb] at HS
  have hform := hu.form
  have HP := Lib.hid (fun wx hx => printF_c M TG RS B X (.slice ao H.length cap) H (by omega) (by omega) (by omega) (by omega) X0 X1 wx hx (fun h hh => by have := hb h hh; omega))
  have hpc := printM_casesF ⟨us M, us TG, X, us RS, H, us B⟩
  obtain ⟨m, hmd⟩ : ∃ m : Mg, m = ⟨us M, us TG, X, us RS, H, us B⟩ := ⟨_, rfl⟩
  rw [← hmd] at HP hpc
  have hfe := Lib.hid (fun k => (show (⟨us M, us TG, X, us RS, H.take k, us ⟨#[]⟩⟩ : Mg) = frontM m k from by rw [hmd]; rfl))
  have HMH := Lib.hid (show m.hdrs = H by rw [hmd])
  have HSm := Lib.hid (fun wx u v (h1 : RHdrs wx u H) (h2 : RHdrs wx v H) => (show Calls Tryd.prog 11 #[.agg #[.string M, .string TG, .int .i64 X, .string RS, u, .string B], .agg #[.string M, .string TG, .int .i64 X, .string RS, v, .string B]] wx fun e w' => e = .returned (.bool true) ∧ Below wx.heap.size wx w' from by have := sameM_c u v ⟨us M, us TG, X, us RS, H, us B⟩ ⟨us M, us TG, X, us RS, H, us B⟩ wx h1 h2; rw [beq_self_eq_true] at this; unfold mgv sv at this; simp only [bs_us] at this; exact this))
  have HMV := Lib.hid (fun v => show mgv m v = .agg #[.string M, .string TG, .int .i64 X, .string RS, v, .string B] by rw [hmd]; unfold mgv sv; simp only [bs_us])
  clear hbb hmd hu hm
  have hBw : Below w.heap.size w (w.alloc (.cells #[.string M, .string TG, .int .i64 X, .string RS, .slice ao H.length cap, .string B] 25)) := (Below.refl _ _).alloc (Nat.le_refl _) _
  have bm0 : Blk (w.alloc (.cells #[.string M, .string TG, .int .i64 X, .string RS, .slice ao H.length cap, .string B] 25)) w.heap.size 25 #[.string M, .string TG, .int .i64 X, .string RS, .slice ao H.length cap, .string B] := Blk.new _ _ _
  obtain ⟨w0, hw0⟩ : ∃ w0, w0 = (w.alloc (.cells #[.string M, .string TG, .int .i64 X, .string RS, .slice ao H.length cap, .string B] 25)) := ⟨_, rfl⟩
  have HX := Lib.hid (fun (wx : World) (h : Below w0.heap.size w0 wx) => (show Blk wx w.heap.size 25 #[.string M, .string TG, .int .i64 X, .string RS, .slice ao H.length cap, .string B] ∧ Below w.heap.size w wx ∧ Ml wx ∧ RHdrs wx (.slice ao H.length cap) H from by
    subst hw0
    have hx := hBw.trans (h.mono hBw.size)
    exact ⟨bm0.call h, hx, HM.out.below hx, HU.out.below hx (Nat.le_refl _)⟩))
  cases b
  · clear hpc
    go_enter Tryd.func8, Tryd.ntmps8
    go_wp2_with (first | (go_at_call 19; rw [← hw0]; refine (HP.out _ (HX.out w0 (Below.refl _ _)).2.2.2).mono ?_; rintro e w1 ⟨rfl, hC1⟩; have hZ := hC1; obtain ⟨bm, hBB, hMM, hUU⟩ := HX.out _ hZ; obtain ⟨p0, p1, p2, p3, p4, p5⟩ := bm.f6) | (go_at_call 13; refine (HS.out _ hUU).mono ?_; rintro e w2 ⟨rfl, hC2⟩; have hZ := hZ.trans (hC2.mono hZ.size); obtain ⟨bm, hBB, hMM, hUU⟩ := HX.out _ hZ; obtain ⟨p0, p1, p2, p3, p4, p5⟩ := bm.f6) | (go_at_call 12; refine (HW.out _ hMM).mono ?_; rintro e wz ⟨rfl, hCz⟩))
    go_ret
    exact ⟨rfl, hBB.trans (hCz.mono hBB.size)⟩
  · rcases hpc with ⟨q1, q2⟩ | ⟨q1, q2, q3⟩
    · obtain ⟨C, hC⟩ : ∃ C, C = (printM m).2 := ⟨_, rfl⟩
      rw [← hC] at HP q2
      have t0 : (C != 0) = true := by simpa using q2
      clear hC q1 q2
      go_enter Tryd.func8, Tryd.ntmps8
      go_wp2_with (first | (go_at_call 19; rw [← hw0]; refine (HP.out _ (HX.out w0 (Below.refl _ _)).2.2.2).mono ?_; rintro e w1 ⟨rfl, hC1⟩; have hZ := hC1; obtain ⟨bm, hBB, hMM, hUU⟩ := HX.out _ hZ; obtain ⟨p0, p1, p2, p3, p4, p5⟩ := bm.f6) | (go_at_call 13; refine (HS.out _ hUU).mono ?_; rintro e w2 ⟨rfl, hC2⟩; have hZ := hZ.trans (hC2.mono hZ.size); obtain ⟨bm, hBB, hMM, hUU⟩ := HX.out _ hZ; obtain ⟨p0, p1, p2, p3, p4, p5⟩ := bm.f6) | (go_at_call 12; refine (HW.out _ hMM).mono ?_; rintro e wz ⟨rfl, hCz⟩))
      go_ret
      exact ⟨rfl, hBB.trans (hCz.mono hBB.size)⟩
    · rw [q1] at HP
      dsimp only at HP
      obtain ⟨TX, hTX⟩ : ∃ TX, TX = bs (textM m) := ⟨_, rfl⟩
      have uT : us TX = textM m := by rw [hTX, us_bs]
      rw [← hTX] at HP
      rw [← uT, length_us] at q3
      clear hTX q1
      by_cases hz : H.length = 0
      · have z0 : ((H.length : Int) == 0) = true := by rw [hz]; rfl
        clear hz hb
        go_enter Tryd.func8, Tryd.ntmps8
        go_wp2_with (first | (go_at_call 19; rw [← hw0]; refine (HP.out _ (HX.out w0 (Below.refl _ _)).2.2.2).mono ?_; rintro e w1 ⟨rfl, hC1⟩; have hZ := hC1; obtain ⟨bm, hBB, hMM, hUU⟩ := HX.out _ hZ; obtain ⟨p0, p1, p2, p3, p4, p5⟩ := bm.f6) | (go_at_call 13; refine (HS.out _ hUU).mono ?_; rintro e w2 ⟨rfl, hC2⟩; have hZ := hZ.trans (hC2.mono hZ.size); obtain ⟨bm, hBB, hMM, hUU⟩ := HX.out _ hZ; obtain ⟨p0, p1, p2, p3, p4, p5⟩ := bm.f6) | (go_at_call 12; refine (HW.out _ hMM).mono ?_; rintro e wz ⟨rfl, hCz⟩))
        go_ret
        exact ⟨rfl, hBB.trans (hCz.mono hBB.size)⟩
      · have z0 : ((H.length : Int) == 0) = false := by rw [beq_eq_false_iff_ne]; omega
        obtain ⟨ao, cap', heq, hm1, c1⟩ := hform
        injection heq with heq1 heq2 heq3
        subst heq1 heq3
        clear heq2
        unfold maxLen at hm1
        obtain ⟨bl, off, rfl, hbl, hc1⟩ := c1 (Nat.pos_of_ne_zero hz)
        obtain ⟨K, hK⟩ : ∃ K, K = A.toNat % H.length := ⟨_, rfl⟩
        have hKl : K < H.length := by rw [hK]; exact Nat.mod_lt _ (Nat.pos_of_ne_zero hz)
        have hcap := RHdrs.cap (HU.out) (Nat.pos_of_ne_zero hz)
        have kc : (K : Int) ≤ (cap : Int) := by omega
        have kB : A % (H.length : Int) = (K : Int) := by rw [hK, Int.natCast_emod, Int.toNat_of_nonneg A0]
        obtain ⟨N, hN⟩ : ∃ x, x = bs H[K].name := ⟨_, rfl⟩
        obtain ⟨V, hV⟩ : ∃ x, x = bs H[K].value := ⟨_, rfl⟩
        have HN := Lib.hid (fun (wx : World) (h : Below w.heap.size w wx) => (show wx.cell? ⟨bl, off + K * 2, none⟩ = some (.string N) from by rw [h.cell (p := ⟨bl, off + K * 2, none⟩) hbl, hN]; exact (hc1 K hKl).1))
        have HV := Lib.hid (fun (wx : World) (h : Below w.heap.size w wx) => (show wx.cell? ⟨bl, off + K * 2 + 1, none⟩ = some (.string V) from by rw [h.cell (p := ⟨bl, off + K * 2 + 1, none⟩) hbl, hV]; exact (hc1 K hKl).2))
        have hVs : V.size ≤ 1048576 := by rw [hV, size_bs]; exact (hb _ (List.getElem_mem hKl)).2
        have hNs : N.size ≤ 1048576 := by rw [hN, size_bs]; exact (hb _ (List.getElem_mem hKl)).1
        obtain ⟨I, hI⟩ : ∃ I, I = E.toNat % (V.size + 1) := ⟨_, rfl⟩
        have hIl : I < V.size + 1 := by rw [hI]; exact Nat.mod_lt _ (by omega)
        have iB : E % ((V.size : Int) + 1) = (I : Int) := by rw [hI, Int.natCast_emod, Int.toNat_of_nonneg E0]; rfl
        have kU : IntKind.u64.wrap (H.length : Int) = (H.length : Int) := IntWalk.u64_in _ (by omega)
        have kI : IntKind.i64.wrap (K : Int) = (K : Int) := IntWalk.i64_in _ (by omega)
        have kL : (K : Int) < (H.length : Int) := by omega
        have k0 : (0 : Int) ≤ (K : Int) := by omega
        have iU : IntKind.u64.wrap ((V.size : Int) + 1) = (V.size : Int) + 1 := IntWalk.u64_in _ (by omega)
        have iI : IntKind.i64.wrap (I : Int) = (I : Int) := IntWalk.i64_in _ (by omega)
        have v0 : (((V.size : Int) + 1) == 0) = false := by rw [beq_eq_false_iff_ne]; omega
        have HNd := Lib.hid hN
        have HVd := Lib.hid hV
        have HBD := Lib.hid hb
        clear hK hI c1 hN hV hb
        by_cases i0 : I = 0
        · subst i0
          go_enter Tryd.func8, Tryd.ntmps8
          go_wp2_with (first | (go_at_call 19; rw [← hw0]; refine (HP.out _ (HX.out w0 (Below.refl _ _)).2.2.2).mono ?_; rintro e w1 ⟨rfl, hC1⟩; have hZ := hC1; obtain ⟨bm, hBB, hMM, hUU⟩ := HX.out _ hZ; obtain ⟨p0, p1, p2, p3, p4, p5⟩ := bm.f6) | (go_at_call 13; refine (HS.out _ hUU).mono ?_; rintro e w2 ⟨rfl, hC2⟩; have hZ := hZ.trans (hC2.mono hZ.size); obtain ⟨bm, hBB, hMM, hUU⟩ := HX.out _ hZ; obtain ⟨p0, p1, p2, p3, p4, p5⟩ := bm.f6; have xN := HN.out _ hBB; have xV := HV.out _ hBB) | (go_at_call 12; refine (HW.out _ hMM).mono ?_; rintro e wz ⟨rfl, hCz⟩))
          go_ret
          exact ⟨rfl, hBB.trans (hCz.mono hBB.size)⟩
        have i0' : ((I : Int) == 0) = false := by rw [beq_eq_false_iff_ne]; omega
        by_cases i1 : V.size ≤ I + 1
        · have i1' : (V.size : Int) - 1 ≤ (I : Int) := by omega
          go_enter Tryd.func8, Tryd.ntmps8
          go_wp2_with (first | (go_at_call 19; rw [← hw0]; refine (HP.out _ (HX.out w0 (Below.refl _ _)).2.2.2).mono ?_; rintro e w1 ⟨rfl, hC1⟩; have hZ := hC1; obtain ⟨bm, hBB, hMM, hUU⟩ := HX.out _ hZ; obtain ⟨p0, p1, p2, p3, p4, p5⟩ := bm.f6) | (go_at_call 13; refine (HS.out _ hUU).mono ?_; rintro e w2 ⟨rfl, hC2⟩; have hZ := hZ.trans (hC2.mono hZ.size); obtain ⟨bm, hBB, hMM, hUU⟩ := HX.out _ hZ; obtain ⟨p0, p1, p2, p3, p4, p5⟩ := bm.f6; have xN := HN.out _ hBB; have xV := HV.out _ hBB) | (go_at_call 12; refine (HW.out _ hMM).mono ?_; rintro e wz ⟨rfl, hCz⟩))
          go_ret
          exact ⟨rfl, hBB.trans (hCz.mono hBB.size)⟩
        have i1' : ¬ ((V.size : Int) - 1 ≤ (I : Int)) := by omega
        have j0 : (0 : Int) ≤ (I : Int) := by omega
        have j1 : (I : Int) < (V.size : Int) := by omega
        by_cases h3 : (V[I]'(by omega)).toNat = 32
        case neg =>
          have h3' : (((V[I]'(by omega)).toNat : Int) != 32) = true := by simp; omega
          go_enter Tryd.func8, Tryd.ntmps8
          go_wp2_with (first | (go_at_call 19; rw [← hw0]; refine (HP.out _ (HX.out w0 (Below.refl _ _)).2.2.2).mono ?_; rintro e w1 ⟨rfl, hC1⟩; have hZ := hC1; obtain ⟨bm, hBB, hMM, hUU⟩ := HX.out _ hZ; obtain ⟨p0, p1, p2, p3, p4, p5⟩ := bm.f6) | (go_at_call 13; refine (HS.out _ hUU).mono ?_; rintro e w2 ⟨rfl, hC2⟩; have hZ := hZ.trans (hC2.mono hZ.size); obtain ⟨bm, hBB, hMM, hUU⟩ := HX.out _ hZ; obtain ⟨p0, p1, p2, p3, p4, p5⟩ := bm.f6; have xN := HN.out _ hBB; have xV := HV.out _ hBB) | (go_at_call 12; refine (HW.out _ hMM).mono ?_; rintro e wz ⟨rfl, hCz⟩))
          go_ret
          exact ⟨rfl, hBB.trans (hCz.mono hBB.size)⟩
        have h3' : (((V[I]'(by omega)).toNat : Int) != 32) = false := by simp; omega
        have m0 : (0 : Int) ≤ (I : Int) - 1 := by omega
        have m1 : (I : Int) - 1 < (V.size : Int) := by omega
        have m2 : ((I : Int) - 1).toNat = I - 1 := by omega
        have m3 : (0 : Int) ≤ (I : Int) + 1 := by omega
        have m4 : (I : Int) + 1 < (V.size : Int) := by omega
        have m5 : ((I : Int) + 1).toNat = I + 1 := by omega
        by_cases h4 : (V[I - 1]'(by omega)).toNat = 32
        · have h4' : (((V[I - 1]'(by omega)).toNat : Int) == 32) = true := by simp; omega
          go_enter Tryd.func8, Tryd.ntmps8
          go_wp2_with (first | (go_at_call 19; rw [← hw0]; refine (HP.out _ (HX.out w0 (Below.refl _ _)).2.2.2).mono ?_; rintro e w1 ⟨rfl, hC1⟩; have hZ := hC1; obtain ⟨bm, hBB, hMM, hUU⟩ := HX.out _ hZ; obtain ⟨p0, p1, p2, p3, p4, p5⟩ := bm.f6) | (go_at_call 13; refine (HS.out _ hUU).mono ?_; rintro e w2 ⟨rfl, hC2⟩; have hZ := hZ.trans (hC2.mono hZ.size); obtain ⟨bm, hBB, hMM, hUU⟩ := HX.out _ hZ; obtain ⟨p0, p1, p2, p3, p4, p5⟩ := bm.f6; have xN := HN.out _ hBB; have xV := HV.out _ hBB) | (go_at_call 12; refine (HW.out _ hMM).mono ?_; rintro e wz ⟨rfl, hCz⟩))
          go_ret
          exact ⟨rfl, hBB.trans (hCz.mono hBB.size)⟩
        have h4' : (((V[I - 1]'(by omega)).toNat : Int) == 32) = false := by simp; omega
        by_cases h5 : (V[I - 1]'(by omega)).toNat = 9
        · have h5' : (((V[I - 1]'(by omega)).toNat : Int) == 9) = true := by simp; omega
          go_enter Tryd.func8, Tryd.ntmps8
          go_wp2_with (first | (go_at_call 19; rw [← hw0]; refine (HP.out _ (HX.out w0 (Below.refl _ _)).2.2.2).mono ?_; rintro e w1 ⟨rfl, hC1⟩; have hZ := hC1; obtain ⟨bm, hBB, hMM, hUU⟩ := HX.out _ hZ; obtain ⟨p0, p1, p2, p3, p4, p5⟩ := bm.f6) | (go_at_call 13; refine (HS.out _ hUU).mono ?_; rintro e w2 ⟨rfl, hC2⟩; have hZ := hZ.trans (hC2.mono hZ.size); obtain ⟨bm, hBB, hMM, hUU⟩ := HX.out _ hZ; obtain ⟨p0, p1, p2, p3, p4, p5⟩ := bm.f6; have xN := HN.out _ hBB; have xV := HV.out _ hBB) | (go_at_call 12; refine (HW.out _ hMM).mono ?_; rintro e wz ⟨rfl, hCz⟩))
          go_ret
          exact ⟨rfl, hBB.trans (hCz.mono hBB.size)⟩
        have h5' : (((V[I - 1]'(by omega)).toNat : Int) == 9) = false := by simp; omega
        by_cases h6 : (V[I + 1]'(by omega)).toNat = 32
        · have h6' : (((V[I + 1]'(by omega)).toNat : Int) == 32) = true := by simp; omega
          go_enter Tryd.func8, Tryd.ntmps8
          go_wp2_with (first | (go_at_call 19; rw [← hw0]; refine (HP.out _ (HX.out w0 (Below.refl _ _)).2.2.2).mono ?_; rintro e w1 ⟨rfl, hC1⟩; have hZ := hC1; obtain ⟨bm, hBB, hMM, hUU⟩ := HX.out _ hZ; obtain ⟨p0, p1, p2, p3, p4, p5⟩ := bm.f6) | (go_at_call 13; refine (HS.out _ hUU).mono ?_; rintro e w2 ⟨rfl, hC2⟩; have hZ := hZ.trans (hC2.mono hZ.size); obtain ⟨bm, hBB, hMM, hUU⟩ := HX.out _ hZ; obtain ⟨p0, p1, p2, p3, p4, p5⟩ := bm.f6; have xN := HN.out _ hBB; have xV := HV.out _ hBB) | (go_at_call 12; refine (HW.out _ hMM).mono ?_; rintro e wz ⟨rfl, hCz⟩))
          go_ret
          exact ⟨rfl, hBB.trans (hCz.mono hBB.size)⟩
        have h6' : (((V[I + 1]'(by omega)).toNat : Int) == 32) = false := by simp; omega
        by_cases h7 : (V[I + 1]'(by omega)).toNat = 9
        · have h7' : (((V[I + 1]'(by omega)).toNat : Int) == 9) = true := by simp; omega
          go_enter Tryd.func8, Tryd.ntmps8
          go_wp2_with (first | (go_at_call 19; rw [← hw0]; refine (HP.out _ (HX.out w0 (Below.refl _ _)).2.2.2).mono ?_; rintro e w1 ⟨rfl, hC1⟩; have hZ := hC1; obtain ⟨bm, hBB, hMM, hUU⟩ := HX.out _ hZ; obtain ⟨p0, p1, p2, p3, p4, p5⟩ := bm.f6) | (go_at_call 13; refine (HS.out _ hUU).mono ?_; rintro e w2 ⟨rfl, hC2⟩; have hZ := hZ.trans (hC2.mono hZ.size); obtain ⟨bm, hBB, hMM, hUU⟩ := HX.out _ hZ; obtain ⟨p0, p1, p2, p3, p4, p5⟩ := bm.f6; have xN := HN.out _ hBB; have xV := HV.out _ hBB) | (go_at_call 12; refine (HW.out _ hMM).mono ?_; rintro e wz ⟨rfl, hCz⟩))
          go_ret
          exact ⟨rfl, hBB.trans (hCz.mono hBB.size)⟩
        have h7' : (((V[I + 1]'(by omega)).toNat : Int) == 9) = false := by simp; omega
        have hTL : (textM m).length = TX.size := by rw [← uT, length_us]
        have hfl := front_le m K
        have hfr := front_len m K
        have hFP := printM_yes _ (front_check m K q2) (by omega)
        obtain ⟨FX, hFXd⟩ : ∃ x, x = bs (textM (frontM m K)) := ⟨_, rfl⟩
        have lFX : FX.size = (textM (frontM m K)).length := by rw [hFXd, size_bs]
        have HF := Lib.hid (fun wx v hv => (show Calls Tryd.prog 19 #[.agg #[.string M, .string TG, .int .i64 X, .string RS, v, .string ⟨#[]⟩]] wx fun e w' => e = .returned (.tuple #[.string FX, .int .i64 0]) ∧ Below wx.heap.size wx w' from by
          have := printF_c M TG RS ⟨#[]⟩ X v (H.take K) (by omega) (by omega) (by omega) (by decide) X0 X1 wx hv (fun h hh => by have := HBD.out h (List.mem_of_mem_take hh); omega)
          rw [hfe.out, hFP] at this; rw [hFXd]; exact this))
        have hKm : K < m.hdrs.length := by rw [HMH.out]; exact hKl
        have hHK : m.hdrs[K] = H[K] := by simp only [HMH.out]
        have hNl : N.size = H[K].name.length := by rw [HNd.out, size_bs]
        have hVl : V.size = H[K].value.length := by rw [HVd.out, size_bs]
        have hal := ahead_len m K H[K] I (by omega)
        have hts := text_split m K hKm I
        rw [hHK] at hts
        obtain ⟨TO, hTO⟩ : ∃ x, x = (aheadM m K H[K] I).length := ⟨_, rfl⟩
        have hTle : TO ≤ TX.size := by rw [← hTL, hts, List.length_append, hTO]; omega
        rw [← hTO] at hal
        have hfb := fold_back m q2 K hKm I (by rw [hHK]; omega) (by simp only [hHK]; rw [val_at V _ HVd.out I (by omega) (by omega)]; exact UInt8.toNat_inj.1 h3) (by simp only [hHK]; rw [val_at V _ HVd.out (I + 1) (by omega) (by omega)]; exact blank_no _ h6 h7)
        rw [hHK, ← hTO, hTL, ← uT] at hfb
        have f0 : ¬ ((FX.size : Int) - 21 < 0) := by omega
        have tO : (FX.size : Int) - 21 + (N.size : Int) + 2 + (I : Int) = (TO : Int) := by omega
        have tle : ¬ ((TX.size : Int) < (TO : Int)) := by omega
        have lFX2 : FX.size ≤ 4096 := by omega
        have lTO : TO ≤ 4096 := by omega
        clear hTL hfl hfr hFP hFXd hKm hHK hNl hVl hal hts hTO lFX uT q2
        by_cases hlong : 4094 < TX.size
        · have t94 : (4094 : Int) < (TX.size : Int) := by omega
          clear hfb
          go_enter Tryd.func8, Tryd.ntmps8
          go_wp2_with (first | (go_at_call 19; refine (HF.out _ _ (hTK.below hB9 (Nat.le_refl _))).mono ?_; rintro e w4 ⟨rfl, hC4⟩; have hZ := hZ.trans (hB9.mono hZ.size); have hZ := hZ.trans (hC4.mono hZ.size); obtain ⟨bm, hBB, hMM, hUU⟩ := HX.out _ hZ; obtain ⟨p0, p1, p2, p3, p4, p5⟩ := bm.f6; have xN := HN.out _ hBB) | (go_at_call 19; rw [← hw0]; refine (HP.out _ (HX.out w0 (Below.refl _ _)).2.2.2).mono ?_; rintro e w1 ⟨rfl, hC1⟩; have hZ := hC1; obtain ⟨bm, hBB, hMM, hUU⟩ := HX.out _ hZ; obtain ⟨p0, p1, p2, p3, p4, p5⟩ := bm.f6) | (go_at_call 13; refine (HS.out _ hUU).mono ?_; rintro e w2 ⟨rfl, hC2⟩; have hZ := hZ.trans (hC2.mono hZ.size); obtain ⟨bm, hBB, hMM, hUU⟩ := HX.out _ hZ; obtain ⟨p0, p1, p2, p3, p4, p5⟩ := bm.f6; have xN := HN.out _ hBB; have xV := HV.out _ hBB; have hTK := RHdrs.takeS hUU K (Nat.le_of_lt hKl); have hB9 : Below w2.heap.size w2 (w2.alloc (.cells #[.string M, .string TG, .int .i64 X, .string RS, (.slice (some ⟨bl, off, none⟩) K cap), .string ⟨#[]⟩] 25)) := (Below.refl _ _).alloc (Nat.le_refl _) _; obtain ⟨y0, y1, y2, y3, y4, y5⟩ := (bm.alloc (.cells #[.string M, .string TG, .int .i64 X, .string RS, .slice (some ⟨bl, off, none⟩) H.length cap, .string B] 25)).f6) | (go_at_call 12; refine (HW.out _ hMM).mono ?_; rintro e wz ⟨rfl, hCz⟩))
          go_ret
          exact ⟨rfl, hBB.trans (hCz.mono hBB.size)⟩
        · have hfb := hfb (by omega)
          have t94 : ¬ ((4094 : Int) < (TX.size : Int)) := by omega
          obtain ⟨PS, hPS⟩ : ∃ x, x = TX.extract 0 TO ++ ⟨#[13, 10]⟩ ++ TX.extract TO TX.size := ⟨_, rfl⟩
          have uPS : us PS = (us TX).take TO ++ 13 :: 10 :: (us TX).drop TO := by
            rw [hPS, us_append, us_append, us_extract, us_tail, List.append_assoc]; rfl
          have lPS : PS.size ≤ 4096 := by
            rw [← length_us, uPS]; simp only [List.length_append, List.length_cons, List.length_take, List.length_drop, length_us]; omega
          have lx1 : (TX.extract 0 TO).size ≤ 4096 := by rw [size_extract _ _ _ hTle]; omega
          have lx2 : (TX.extract TO TX.size).size ≤ 4096 := by rw [size_extract _ _ _ (Nat.le_refl _)]; omega
          have HQ := Lib.hid (fun wx hx => (show Calls Tryd.prog 9 #[.string PS] wx fun e w' => ∃ v, e = .returned v ∧ (∃ u, v = (.tuple #[.agg #[.string M, .string TG, .int .i64 X, .string RS, u, .string B], .int .i64 0]) ∧ RHdrs w' u H ∧ FreshH wx.heap.size u ∧ Below wx.heap.size wx w') from by
            have := parse_c PS (by omega) wx hx
            unfold ParsePost at this
            rw [uPS, hfb] at this
            dsimp only at this
            rw [HMH.out] at this
            refine this.mono ?_
            rintro e w' ⟨u, rfl, h1, hF, h2⟩
            rw [HMV.out]
            exact ⟨_, rfl, u, rfl, h1, hF, h2⟩))
          have o0 : (0 : Int) ≤ (TO : Int) := by omega
          have o1 : (TO : Int) ≤ (TX.size : Int) := by omega
          subst hPS
          clear hfb uPS lPS
          go_enter Tryd.func8, Tryd.ntmps8
          go_wp2_with (first | (go_at_call 19; refine (HF.out _ _ (hTK.below hB9 (Nat.le_refl _))).mono ?_; rintro e w4 ⟨rfl, hC4⟩; have hZ := hZ.trans (hB9.mono hZ.size); have hZ := hZ.trans (hC4.mono hZ.size); obtain ⟨bm, hBB, hMM, hUU⟩ := HX.out _ hZ; obtain ⟨p0, p1, p2, p3, p4, p5⟩ := bm.f6; have xN := HN.out _ hBB) | (go_at_call 19; rw [← hw0]; refine (HP.out _ (HX.out w0 (Below.refl _ _)).2.2.2).mono ?_; rintro e w1 ⟨rfl, hC1⟩; have hZ := hC1; obtain ⟨bm, hBB, hMM, hUU⟩ := HX.out _ hZ; obtain ⟨p0, p1, p2, p3, p4, p5⟩ := bm.f6) | (go_at_call 13; refine (HS.out _ hUU).mono ?_; rintro e w2 ⟨rfl, hC2⟩; have hZ := hZ.trans (hC2.mono hZ.size); obtain ⟨bm, hBB, hMM, hUU⟩ := HX.out _ hZ; obtain ⟨p0, p1, p2, p3, p4, p5⟩ := bm.f6; have xN := HN.out _ hBB; have xV := HV.out _ hBB; have hTK := RHdrs.takeS hUU K (Nat.le_of_lt hKl); have hB9 : Below w2.heap.size w2 (w2.alloc (.cells #[.string M, .string TG, .int .i64 X, .string RS, (.slice (some ⟨bl, off, none⟩) K cap), .string ⟨#[]⟩] 25)) := (Below.refl _ _).alloc (Nat.le_refl _) _; obtain ⟨y0, y1, y2, y3, y4, y5⟩ := (bm.alloc (.cells #[.string M, .string TG, .int .i64 X, .string RS, .slice (some ⟨bl, off, none⟩) H.length cap, .string B] 25)).f6) | (go_at_call 12; refine (HW.out _ hMM).mono ?_; rintro e wz ⟨rfl, hCz⟩))
          have hZq := hZ
          replace hZ := hZ.drew
          obtain ⟨bm, hBB, hMM, hUU⟩ := HX.out _ hZ; obtain ⟨p0, p1, p2, p3, p4, p5⟩ := bm.f6
          refine wp_region_any (by kernel_rfl) ?_
          try (change wpAny _ _ _ _ _ _ _ (World.drew _))
          first | (refine wpAny_take (i := 0) (v := undef) rfl (by kernel_rfl) (by kernel_rfl) (by kernel_rfl) (fun _ _ _ h => h) (Or.inr ⟨by rfl, rfl⟩) ?_) | (refine wpAny_take (i := 0) (v := ?_) rfl (by kernel_rfl) (by kernel_rfl) (by kernel_rfl) (fun _ _ _ h => h) ?_ ?_; rotate_left; focus (refine Or.inl ⟨by rfl, ?_⟩; intro _; go_simp; first | done | with_reducible rfl | (rw [if_neg (by omega)]; done) | (rw [if_neg (by omega)]; with_reducible rfl)))
          try go_simp
          first | (refine wpAny_take (i := 1) (v := undef) rfl (by kernel_rfl) (by kernel_rfl) (by kernel_rfl) (fun _ _ _ h => h) (Or.inr ⟨by rfl, rfl⟩) ?_) | (refine wpAny_take (i := 1) (v := ?_) rfl (by kernel_rfl) (by kernel_rfl) (by kernel_rfl) (fun _ _ _ h => h) ?_ ?_; rotate_left; focus (refine Or.inl ⟨by rfl, ?_⟩; intro _; go_simp; first | done | with_reducible rfl | (rw [if_neg (by omega)]; done) | (rw [if_neg (by omega)]; with_reducible rfl)))
          try go_simp
          first | (refine wpAny_take (i := 2) (v := undef) rfl (by kernel_rfl) (by kernel_rfl) (by kernel_rfl) (fun _ _ _ h => h) (Or.inr ⟨by rfl, rfl⟩) ?_) | (refine wpAny_take (i := 2) (v := ?_) rfl (by kernel_rfl) (by kernel_rfl) (by kernel_rfl) (fun _ _ _ h => h) ?_ ?_; rotate_left; focus (refine Or.inl ⟨by rfl, ?_⟩; intro _; go_simp; first | done | with_reducible rfl | (rw [if_neg (by omega)]; done) | (rw [if_neg (by omega)]; with_reducible rfl)))
          try go_simp
          first | (refine wpAny_take (i := 3) (v := undef) rfl (by kernel_rfl) (by kernel_rfl) (by kernel_rfl) (fun _ _ _ h => h) (Or.inr ⟨by rfl, rfl⟩) ?_) | (refine wpAny_take (i := 3) (v := ?_) rfl (by kernel_rfl) (by kernel_rfl) (by kernel_rfl) (fun _ _ _ h => h) ?_ ?_; rotate_left; focus (refine Or.inl ⟨by rfl, ?_⟩; intro _; go_simp; first | done | with_reducible rfl | (rw [if_neg (by omega)]; done) | (rw [if_neg (by omega)]; with_reducible rfl)))
          try go_simp
          first | (refine wpAny_take (i := 4) (v := undef) rfl (by kernel_rfl) (by kernel_rfl) (by kernel_rfl) (fun _ _ _ h => h) (Or.inr ⟨by rfl, rfl⟩) ?_) | (refine wpAny_take (i := 4) (v := ?_) rfl (by kernel_rfl) (by kernel_rfl) (by kernel_rfl) (fun _ _ _ h => h) ?_ ?_; rotate_left; focus (refine Or.inl ⟨by rfl, ?_⟩; intro _; go_simp; first | done | with_reducible rfl | (rw [if_neg (by omega)]; done) | (rw [if_neg (by omega)]; with_reducible rfl)))
          try go_simp
          first | (refine wpAny_take (i := 5) (v := undef) rfl (by kernel_rfl) (by kernel_rfl) (by kernel_rfl) (fun _ _ _ h => h) (Or.inr ⟨by rfl, rfl⟩) ?_) | (refine wpAny_take (i := 5) (v := ?_) rfl (by kernel_rfl) (by kernel_rfl) (by kernel_rfl) (fun _ _ _ h => h) ?_ ?_; rotate_left; focus (refine Or.inl ⟨by rfl, ?_⟩; intro _; go_simp; first | done | with_reducible rfl | (rw [if_neg (by omega)]; done) | (rw [if_neg (by omega)]; with_reducible rfl)))
          try go_simp
          first | (refine wpAny_take (i := 6) (v := undef) rfl (by kernel_rfl) (by kernel_rfl) (by kernel_rfl) (fun _ _ _ h => h) (Or.inr ⟨by rfl, rfl⟩) ?_) | (refine wpAny_take (i := 6) (v := ?_) rfl (by kernel_rfl) (by kernel_rfl) (by kernel_rfl) (fun _ _ _ h => h) ?_ ?_; rotate_left; focus (refine Or.inl ⟨by rfl, ?_⟩; intro _; go_simp; first | done | with_reducible rfl | (rw [if_neg (by omega)]; done) | (rw [if_neg (by omega)]; with_reducible rfl)))
          try go_simp
          first | (refine wpAny_take (i := 7) (v := undef) rfl (by kernel_rfl) (by kernel_rfl) (by kernel_rfl) (fun _ _ _ h => h) (Or.inr ⟨by rfl, rfl⟩) ?_) | (refine wpAny_take (i := 7) (v := ?_) rfl (by kernel_rfl) (by kernel_rfl) (by kernel_rfl) (fun _ _ _ h => h) ?_ ?_; rotate_left; focus (refine Or.inl ⟨by rfl, ?_⟩; intro _; go_simp; first | done | with_reducible rfl | (rw [if_neg (by omega)]; done) | (rw [if_neg (by omega)]; with_reducible rfl)))
          try go_simp
          refine wpAny_ready (rs := [8, 12]) (by kernel_rfl) (by simp) ?_
          refine AllReady.cons rfl (fun K hK => ?_) ?_
          ·
            refine step_wX1 rfl rfl Tryd.func9 nmPa bdPa rfl (HQ.out _ hMM) ?_
            rintro v5 w5 ⟨u5, rfl, hu5, hF5, hC5⟩
            obtain ⟨a5, c5, rfl, _, _⟩ := hu5.form
            have hZ5 := hZ.trans (hC5.mono hZ.size)
            try go_simp
            refine hK _ _ ?_; clear hK K
            first | (refine wpAny_take (i := 9) (v := undef) rfl (by kernel_rfl) (by kernel_rfl) (by kernel_rfl) (fun _ _ _ h => h) (Or.inr ⟨by rfl, rfl⟩) ?_) | (refine wpAny_take (i := 9) (v := ?_) rfl (by kernel_rfl) (by kernel_rfl) (by kernel_rfl) (fun _ _ _ h => h) ?_ ?_; rotate_left; focus (refine Or.inl ⟨by rfl, ?_⟩; intro _; go_simp; first | done | with_reducible rfl | (rw [if_neg (by omega)]; done) | (rw [if_neg (by omega)]; with_reducible rfl)))
            try go_simp
            first | (refine wpAny_take (i := 10) (v := undef) rfl (by kernel_rfl) (by kernel_rfl) (by kernel_rfl) (fun _ _ _ h => h) (Or.inr ⟨by rfl, rfl⟩) ?_) | (refine wpAny_take (i := 10) (v := ?_) rfl (by kernel_rfl) (by kernel_rfl) (by kernel_rfl) (fun _ _ _ h => h) ?_ ?_; rotate_left; focus (refine Or.inl ⟨by rfl, ?_⟩; intro _; go_simp; first | done | with_reducible rfl | (rw [if_neg (by omega)]; done) | (rw [if_neg (by omega)]; with_reducible rfl)))
            try go_simp
            first | (refine wpAny_take (i := 11) (v := undef) rfl (by kernel_rfl) (by kernel_rfl) (by kernel_rfl) (fun _ _ _ h => h) (Or.inr ⟨by rfl, rfl⟩) ?_) | (refine wpAny_take (i := 11) (v := ?_) rfl (by kernel_rfl) (by kernel_rfl) (by kernel_rfl) (fun _ _ _ h => h) ?_ ?_; rotate_left; focus (refine Or.inl ⟨by rfl, ?_⟩; intro _; go_simp; first | done | with_reducible rfl | (rw [if_neg (by omega)]; done) | (rw [if_neg (by omega)]; with_reducible rfl)))
            try go_simp
            refine wpAny_ready (rs := [12]) (by kernel_rfl) (by simp) ?_
            refine AllReady.cons rfl (fun K hK => ?_) AllReady.nil
            go_simp
            refine hK _ _ ?_; clear hK K
            have bn := Blk.new w5 25 #[.string ⟨#[]⟩, .string ⟨#[]⟩, .int .i64 0, .string ⟨#[]⟩, .slice none 0 0, .string ⟨#[]⟩]
            obtain ⟨n0, n1, n2, n3, n4, n5, f0', f1', f2', f3', f4', f5', z2⟩ := bn.g6
            have hA : Below w5.heap.size w5 (w5.alloc (.cells #[.string ⟨#[]⟩, .string ⟨#[]⟩, .int .i64 0, .string ⟨#[]⟩, .slice none 0 0, .string ⟨#[]⟩] 25)) := (Below.refl _ _).alloc (Nat.le_refl _) _
            refine wpAny_ready (rs := [13]) (by kernel_rfl) (by simp) ?_
            refine AllReady.cons rfl (fun K hK => ?_) AllReady.nil
            go_simp
            refine hK _ _ ?_; clear hK K
            refine wpAny_ready (rs := [14]) (by kernel_rfl) (by simp) ?_
            refine AllReady.cons rfl (fun K hK => ?_) AllReady.nil
            go_simp
            refine hK _ _ ?_; clear hK K
            refine wpAny_done (by kernel_rfl) ?_ _
            refine any_world (R := Exit.then _ _ _ _) (fun wF => Below w0.heap.size w0 wF ∧ Blk wF _ 25 #[.string M, .string TG, .int .i64 X, .string RS, .slice a5 H.length c5, .string B] ∧ RHdrs wF (.slice a5 H.length c5) H) ⟨hZ5.alloc hZ5.size _, Blk.new w5 _ _, hu5.below ((Below.refl _ _).alloc (Nat.le_refl _) _) (Nat.le_refl _)⟩ ?_
            rintro wF ⟨hZ, bn, hv1⟩
            obtain ⟨bm, hBB, hMM, hUU⟩ := HX.out _ hZ; obtain ⟨p0, p1, p2, p3, p4, p5⟩ := bm.f6
            obtain ⟨q0, q1, q2, q3, q4, q5⟩ := bn.f6
            go_wp2_with (first | (go_at_call 11; refine (HSm.out _ _ _ hUU hv1).mono ?_; rintro e w6 ⟨rfl, hC6⟩; have hZ := hZ.trans (hC6.mono hZ.size); obtain ⟨bm, hBB, hMM, hUU⟩ := HX.out _ hZ; obtain ⟨p0, p1, p2, p3, p4, p5⟩ := bm.f6) | (go_at_call 12; refine (HW.out _ hMM).mono ?_; rintro e wz ⟨rfl, hCz⟩))
            go_ret
            exact ⟨rfl, hBB.trans (hCz.mono hBB.size)⟩
          refine AllReady.cons rfl (fun K hK => ?_) AllReady.nil
          ·
            go_simp
            refine hK _ _ ?_; clear hK K
            have hZ8 := (hZq.alloc hZq.size (.cells #[.string ⟨#[]⟩, .string ⟨#[]⟩, .int .i64 0, .string ⟨#[]⟩, .slice none 0 0, .string ⟨#[]⟩] 25)).drew
            have bn8 := (Blk.new w4 25 #[.string ⟨#[]⟩, .string ⟨#[]⟩, .int .i64 0, .string ⟨#[]⟩, .slice none 0 0, .string ⟨#[]⟩]).drew
            obtain ⟨w8, hw8⟩ : ∃ w8, w8 = (w4.alloc (.cells #[.string ⟨#[]⟩, .string ⟨#[]⟩, .int .i64 0, .string ⟨#[]⟩, .slice none 0 0, .string ⟨#[]⟩] 25)).drew := ⟨_, rfl⟩
            have hs8 : w4.heap.size < w8.heap.size := by rw [hw8]; simp
            rw [← hw8] at hZ8 bn8 ⊢
            clear hw8
            obtain ⟨bm, hBB, hMM, hUU⟩ := HX.out _ hZ8
            refine wpAny_ready (rs := [8]) (by kernel_rfl) (by simp) ?_
            refine AllReady.cons rfl (fun K hK => ?_) AllReady.nil
            refine step_wX1 rfl rfl Tryd.func9 nmPa bdPa rfl (HQ.out _ hMM) ?_
            rintro v5 w5 ⟨u5, rfl, hu5, hF5, hC5⟩
            obtain ⟨a5, c5, rfl, _, _⟩ := hu5.form
            have hZ5 := hZ8.trans (hC5.mono hZ8.size)
            have bn := bn8.call hC5
            obtain ⟨n0, n1, n2, n3, n4, n5, f0', f1', f2', f3', f4', f5', z2⟩ := bn.g6
            try go_simp
            refine hK _ _ ?_; clear hK K
            first | (refine wpAny_take (i := 9) (v := undef) rfl (by kernel_rfl) (by kernel_rfl) (by kernel_rfl) (fun _ _ _ h => h) (Or.inr ⟨by rfl, rfl⟩) ?_) | (refine wpAny_take (i := 9) (v := ?_) rfl (by kernel_rfl) (by kernel_rfl) (by kernel_rfl) (fun _ _ _ h => h) ?_ ?_; rotate_left; focus (refine Or.inl ⟨by rfl, ?_⟩; intro _; go_simp; first | done | with_reducible rfl | (rw [if_neg (by omega)]; done) | (rw [if_neg (by omega)]; with_reducible rfl)))
            try go_simp
            first | (refine wpAny_take (i := 10) (v := undef) rfl (by kernel_rfl) (by kernel_rfl) (by kernel_rfl) (fun _ _ _ h => h) (Or.inr ⟨by rfl, rfl⟩) ?_) | (refine wpAny_take (i := 10) (v := ?_) rfl (by kernel_rfl) (by kernel_rfl) (by kernel_rfl) (fun _ _ _ h => h) ?_ ?_; rotate_left; focus (refine Or.inl ⟨by rfl, ?_⟩; intro _; go_simp; first | done | with_reducible rfl | (rw [if_neg (by omega)]; done) | (rw [if_neg (by omega)]; with_reducible rfl)))
            try go_simp
            first | (refine wpAny_take (i := 11) (v := undef) rfl (by kernel_rfl) (by kernel_rfl) (by kernel_rfl) (fun _ _ _ h => h) (Or.inr ⟨by rfl, rfl⟩) ?_) | (refine wpAny_take (i := 11) (v := ?_) rfl (by kernel_rfl) (by kernel_rfl) (by kernel_rfl) (fun _ _ _ h => h) ?_ ?_; rotate_left; focus (refine Or.inl ⟨by rfl, ?_⟩; intro _; go_simp; first | done | with_reducible rfl | (rw [if_neg (by omega)]; done) | (rw [if_neg (by omega)]; with_reducible rfl)))
            try go_simp
            refine wpAny_ready (rs := [13]) (by kernel_rfl) (by simp) ?_
            refine AllReady.cons rfl (fun K hK => ?_) AllReady.nil
            go_simp
            refine hK _ _ ?_; clear hK K
            refine wpAny_ready (rs := [14]) (by kernel_rfl) (by simp) ?_
            refine AllReady.cons rfl (fun K hK => ?_) AllReady.nil
            go_simp
            refine hK _ _ ?_; clear hK K
            refine wpAny_done (by kernel_rfl) ?_ _
            refine any_world (R := Exit.then _ _ _ _) (fun wF => Below w0.heap.size w0 wF ∧ Blk wF _ 25 #[.string M, .string TG, .int .i64 X, .string RS, .slice a5 H.length c5, .string B] ∧ RHdrs wF (.slice a5 H.length c5) H) ⟨below_put6 hZ5 hZq.size, bn.put6, (((((hu5.set hF5 hs8 _).set hF5 hs8 _).set hF5 hs8 _).set hF5 hs8 _).set hF5 hs8 _).set hF5 hs8 _⟩ ?_
            rintro wF ⟨hZ, bn, hv1⟩
            obtain ⟨bm, hBB, hMM, hUU⟩ := HX.out _ hZ; obtain ⟨p0, p1, p2, p3, p4, p5⟩ := bm.f6
            obtain ⟨q0, q1, q2, q3, q4, q5⟩ := bn.f6
            go_wp2_with (first | (go_at_call 11; refine (HSm.out _ _ _ hUU hv1).mono ?_; rintro e w6 ⟨rfl, hC6⟩; have hZ := hZ.trans (hC6.mono hZ.size); obtain ⟨bm, hBB, hMM, hUU⟩ := HX.out _ hZ; obtain ⟨p0, p1, p2, p3, p4, p5⟩ := bm.f6) | (go_at_call 12; refine (HW.out _ hMM).mono ?_; rintro e wz ⟨rfl, hCz⟩))
            go_ret
            exact ⟨rfl, hBB.trans (hCz.mono hBB.size)⟩

end Go.Proofs.YtgpbnbaegghajaaDoor
