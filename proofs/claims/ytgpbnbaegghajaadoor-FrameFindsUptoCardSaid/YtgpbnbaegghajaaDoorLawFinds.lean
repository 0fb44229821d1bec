/-
  The law FrameFinds: the walk.
-/
import Derived.Test.YtgpbnbaegghajaaDoorSmall6
namespace Go.Proofs.YtgpbnbaegghajaaDoor
open Go.RowKit

section
variable {P : Program} {ops : Array Oper} {o : Oper} {a : Act} {Q : Exit → Act → World → Prop}
/-- a call of two arguments that hands back some value, as an operation of a region that draws its order -/
theorem step_wX2 {K : Act → World → Prop} {w : World} {E : Prop} {R : Value → World → Prop} {f : FuncId} {x y : Operand} {ts : Array TypeId} {v0 v1 : Value}
    (hw : Region.wanted o (yielded ops a.tmps) = true) (ho : o.op = .call { callee := .value (.func f), args := #[x, y], argTypes := ts }) {fn : Func} (hf : P.funcs[f]? = some fn) (hnm : (fn.name == "runtime.NumGoroutine") = false) (hbd : fn.body.isNone = false)
    (hx : a.eval x = v0) (hy : a.eval y = v1) (hC : Calls P f #[v0, v1] w fun e w' => ∃ v, e = .returned v ∧ R v w') (hK : ∀ v w', R v w' → K (a.put o.dst v) w') :
    if Region.wanted o (yielded ops a.tmps) = true then Oper.wp P o a w K Q else E := by
  rw [if_pos hw]
  unfold Oper.wp
  have h1 : fn.name ≠ "runtime.NumGoroutine" := by simpa using hnm
  have h2 : fn.body ≠ none := by intro e; rw [e] at hbd; cases hbd
  have hrun : (execOp a.eval o).run P w = .ok (.enter f #[v0, v1]) w := by
    subst hx hy
    simp [execOp, ho, resolve, Deferred.ofValue, invoke, callFunc, Act.eval, hf, h1, h2, Result.andThen]
  rw [hrun]
  refine hC.mono ?_
  rintro e w' ⟨v, rfl, hR⟩
  exact hK v w' hR
/-- a call of no argument -/
theorem step_wB0 {K : Act → World → Prop} {w : World} {E : Prop} {f : FuncId} {ts : Array TypeId} {v : Value}
    (hw : Region.wanted o (yielded ops a.tmps) = true) (ho : o.op = .call { callee := .value (.func f), args := #[], argTypes := ts }) {fn : Func} (hf : P.funcs[f]? = some fn) (hnm : (fn.name == "runtime.NumGoroutine") = false) (hbd : fn.body.isNone = false)
    (hC : Calls P f #[] w fun e w' => e = .returned v ∧ Below w.heap.size w w') (hK : ∀ w', Below w.heap.size w w' → K (a.put o.dst v) w') :
    if Region.wanted o (yielded ops a.tmps) = true then Oper.wp P o a w K Q else E := by
  rw [if_pos hw]
  unfold Oper.wp
  have h1 : fn.name ≠ "runtime.NumGoroutine" := by simpa using hnm
  have h2 : fn.body ≠ none := by intro e; rw [e] at hbd; cases hbd
  have hrun : (execOp a.eval o).run P w = .ok (.enter f #[]) w := by
    simp [execOp, ho, resolve, Deferred.ofValue, invoke, callFunc, Act.eval, hf, h1, h2, Result.andThen]
  rw [hrun]
  refine hC.mono ?_
  rintro e w' ⟨rfl, hR⟩
  exact hK w' hR
end
theorem nmAl : (Tryd.f17.name == "runtime.NumGoroutine") = false := by kernel_rfl
theorem bdAl : Tryd.f17.body.isNone = false := by kernel_rfl
theorem nmAlR : (Tryd.f18.name == "runtime.NumGoroutine") = false := by kernel_rfl
theorem bdAlR : Tryd.f18.body.isNone = false := by kernel_rfl
theorem nmTx : (Tryd.f16.name == "runtime.NumGoroutine") = false := by kernel_rfl
theorem bdTx : Tryd.f16.body.isNone = false := by kernel_rfl
theorem nmAw : (Tryd.f12.name == "runtime.NumGoroutine") = false := by kernel_rfl
theorem bdAw : Tryd.f12.body.isNone = false := by kernel_rfl

set_option maxRecDepth 100000 in
set_option maxHeartbeats 12800000 in
theorem frameFinds_walk (M TG RS B : ByteArray) (X : Int) (u : Value) (H : List Hdr) (h1 : M.size ≤ 1048576) (h2 : TG.size ≤ 1048576) (h3 : RS.size ≤ 1048576) (h4 : B.size ≤ 1048576) (hH : H.length ≤ 1048576)
    (hb : ∀ h ∈ H, h.name.length ≤ 1048576 ∧ h.value.length ≤ 1048576) (name : ByteArray) (hn : name.size ≤ 1048576) (w : World) (hm : Ml w) (hu : RHdrs w u H) :
    Calls Tryd.prog 4 #[.agg #[.string M, .string TG, .int .i64 X, .string RS, u, .string B], .string name] w fun e w' => e = .returned (.bool true) ∧ Below w.heap.size w w' := by
  have HM := Lib.hid hm
  have HU := Lib.hid hu
  obtain ⟨ao, cap, rfl, _, _⟩ := hu.form
  have HW := Lib.hid (fun wx hx => awake_c wx hx)
  have HS := Lib.hid (fun wx hx => small_c M TG RS B X (.slice ao H.length cap) H h1 h2 h3 h4 hH hb wx hx)
  have HA := Lib.hid (fun wx hx => all_c' M TG RS B X (.slice ao H.length cap) H name (by omega) wx hx (fun h hh => by have := hb h hh; omega) (by omega))
  have HAR := Lib.hid (fun wx hx => allR_c' M TG RS B X (.slice ao H.length cap) H name (by omega) wx hx (fun h hh => by have := hb h hh; omega) (by omega))
  have HO := Lib.hid (fun wx hx => one_c' M TG RS B X (.slice ao H.length cap) H name (by omega) wx hx (fun h hh => by have := hb h hh; omega) (by omega))
  have HOR := Lib.hid (fun wx hx => oneR_c' M TG RS B X (.slice ao H.length cap) H name (by omega) wx hx (fun h hh => by have := hb h hh; omega) (by omega))
  obtain ⟨b, hbb⟩ : ∃ b, b = decide (size4 M TG RS B + sumH H ≤ 20000) := ⟨_, rfl⟩
  rw [← hbb] at HS
  obtain ⟨o, ho⟩ : ∃ o, o = oneS H (us name) := ⟨_, rfl⟩
  rw [← ho] at HO HOR
  obtain ⟨L, hL⟩ : ∃ L, L = allS H (us name) := ⟨_, rfl⟩
  rw [← hL] at HA HAR
  obtain ⟨S1, hS1⟩ : ∃ S, S = bs o.1 := ⟨_, rfl⟩
  obtain ⟨b1, hb1⟩ : ∃ b, b = o.2 := ⟨_, rfl⟩
  rw [← hS1, ← hb1] at HO HOR
  have e1 : (S1.toList == S1.toList) = true := beq_self_eq_true _
  have e2 : (b1 == b1) = true := by cases b1 <;> rfl
  have HT := Lib.hid (fun wx va vb h1 h2 => (show Calls Tryd.prog 16 #[va, vb] wx fun e w' => e = .returned (.bool true) ∧ Below wx.heap.size wx w' from
    (texts_c va vb L L wx h1 h2).mono fun e w' ⟨a, d⟩ => ⟨a.trans (by simp), d.below⟩))
  clear hbb ho hL hu hm hb hS1 hb1
  have hBw : Below w.heap.size w (w.alloc (.cells #[.string M, .string TG, .int .i64 X, .string RS, .slice ao H.length cap, .string B] 25)) := (Below.refl _ _).alloc (Nat.le_refl _) _
  have bm0 : Blk (w.alloc (.cells #[.string M, .string TG, .int .i64 X, .string RS, .slice ao H.length cap, .string B] 25)) w.heap.size 25 #[.string M, .string TG, .int .i64 X, .string RS, .slice ao H.length cap, .string B] := Blk.new _ _ _
  obtain ⟨w0, hw0⟩ : ∃ w0, w0 = (w.alloc (.cells #[.string M, .string TG, .int .i64 X, .string RS, .slice ao H.length cap, .string B] 25)) := ⟨_, rfl⟩
  have HX := Lib.hid (fun (wx : World) (h : Below w0.heap.size w0 wx) => (show Blk wx w.heap.size 25 #[.string M, .string TG, .int .i64 X, .string RS, .slice ao H.length cap, .string B] ∧ Below w.heap.size w wx ∧ Ml wx ∧ RHdrs wx (.slice ao H.length cap) H from by
    subst hw0
    have hx := hBw.trans (h.mono hBw.size)
    exact ⟨bm0.call h, hx, HM.out.below hx, HU.out.below hx (Nat.le_refl _)⟩))
  cases b
  · go_enter Tryd.func4, Tryd.ntmps4
    go_wp2_with (first
      | (go_at_call 13; rw [← hw0]; refine (HS.out _ (HX.out w0 (Below.refl _ _)).2.2.2).mono ?_; rintro e w1 ⟨rfl, hC1⟩; obtain ⟨bm, hBB, hMM, hUU⟩ := HX.out w1 hC1)
      | (go_at_call 12; refine (HW.out _ hMM).mono ?_; rintro e w2 ⟨rfl, hC2⟩))
    go_ret
    exact ⟨rfl, hBB.trans (hC2.mono hBB.size)⟩
  · go_enter Tryd.func4, Tryd.ntmps4
    go_wp2_with (first
      | (go_at_call 13; rw [← hw0]; refine (HS.out _ (HX.out w0 (Below.refl _ _)).2.2.2).mono ?_; rintro e w1 ⟨rfl, hC1⟩; obtain ⟨bm, hBB, hMM, hUU⟩ := HX.out w1 hC1; obtain ⟨p0, p1, p2, p3, p4, p5⟩ := bm.f6)
      | (go_at_call 14; refine (HO.out _ hUU).mono ?_; rintro e w2 ⟨rfl, hC2⟩; have hC12 := hC1.trans (hC2.mono hC1.size); obtain ⟨bm, hBB, hMM, hUU⟩ := HX.out w2 hC12; obtain ⟨p0, p1, p2, p3, p4, p5⟩ := bm.f6)
      | (go_at_call 15; refine (HOR.out _ hUU).mono ?_; rintro e w3 ⟨rfl, hC3⟩; have hC13 := hC12.trans (hC3.mono hC12.size); obtain ⟨bm, hBB, hMM, hUU⟩ := HX.out w3 hC13; obtain ⟨p0, p1, p2, p3, p4, p5⟩ := bm.f6))
    have hZ := hC13.drew
    obtain ⟨bm, hBB, hMM, hUU⟩ := HX.out _ hZ
    obtain ⟨p0, p1, p2, p3, p4, p5⟩ := bm.f6
    refine wp_region_any (by kernel_rfl) ?_
    try (change wpAny _ _ _ _ _ _ _ (World.drew _))
    first | (refine wpAny_take (i := 1) (v := undef) rfl (by kernel_rfl) (by kernel_rfl) (by kernel_rfl) (fun _ _ _ h => h) (Or.inr ⟨by rfl, rfl⟩) ?_) | (refine wpAny_take (i := 1) (v := ?_) rfl (by kernel_rfl) (by kernel_rfl) (by kernel_rfl) (fun _ _ _ h => h) ?_ ?_; rotate_left; focus (refine Or.inl ⟨by rfl, ?_⟩; intro _; go_simp; first | done | with_reducible rfl))
    try go_simp
    first | (refine wpAny_take (i := 4) (v := undef) rfl (by kernel_rfl) (by kernel_rfl) (by kernel_rfl) (fun _ _ _ h => h) (Or.inr ⟨by rfl, rfl⟩) ?_) | (refine wpAny_take (i := 4) (v := ?_) rfl (by kernel_rfl) (by kernel_rfl) (by kernel_rfl) (fun _ _ _ h => h) ?_ ?_; rotate_left; focus (refine Or.inl ⟨by rfl, ?_⟩; intro _; go_simp; first | done | with_reducible rfl))
    try go_simp
    refine wpAny_ready (rs := [0, 3]) (by kernel_rfl) (by simp) ?_
    refine AllReady.cons rfl (fun K hK => ?_) ?_
    ·
      go_simp
      refine hK _ _ ?_; clear hK K
      refine wpAny_ready (rs := [2, 3]) (by kernel_rfl) (by simp) ?_
      refine AllReady.cons rfl (fun K hK => ?_) ?_
      ·
        refine step_wX2 rfl rfl Tryd.func17 nmAl bdAl rfl rfl (HA.out _ hUU) ?_
        intro va wa hRa
        obtain ⟨hva, hCa⟩ := hRa
        replace hZ := hZ.trans (hCa.mono hZ.size)
        obtain ⟨bm, hBB, hMM, hUU⟩ := HX.out _ hZ
        obtain ⟨p0, p1, p2, p3, p4, p5⟩ := bm.f6
        try go_simp
        refine hK _ _ ?_; clear hK K
        refine wpAny_ready (rs := [3]) (by kernel_rfl) (by simp) ?_
        refine AllReady.cons rfl (fun K hK => ?_) ?_
        ·
          go_simp
          refine hK _ _ ?_; clear hK K
          refine wpAny_ready (rs := [5]) (by kernel_rfl) (by simp) ?_
          refine AllReady.cons rfl (fun K hK => ?_) ?_
          ·
            refine step_wX2 rfl rfl Tryd.func18 nmAlR bdAlR rfl rfl (HAR.out _ hUU) ?_
            intro vb wb hRb
            obtain ⟨hvb, hCb⟩ := hRb
            replace hva := hva.below hCb (Nat.le_refl _)
            replace hZ := hZ.trans (hCb.mono hZ.size)
            obtain ⟨bm, hBB, hMM, hUU⟩ := HX.out _ hZ
            obtain ⟨p0, p1, p2, p3, p4, p5⟩ := bm.f6
            try go_simp
            refine hK _ _ ?_; clear hK K
            refine wpAny_ready (rs := [6]) (by kernel_rfl) (by simp) ?_
            refine AllReady.cons rfl (fun K hK => ?_) ?_
            ·
              refine step_wB2 rfl rfl Tryd.func16 nmTx bdTx rfl rfl (HT.out _ _ _ hva hvb) ?_
              intro wc hCc
              replace hZ := hZ.trans (hCc.mono hZ.size)
              obtain ⟨bm, hBB, hMM, hUU⟩ := HX.out _ hZ
              obtain ⟨p0, p1, p2, p3, p4, p5⟩ := bm.f6
              try go_simp
              refine hK _ _ ?_; clear hK K
              first | (refine wpAny_take (i := 7) (v := undef) rfl (by kernel_rfl) (by kernel_rfl) (by kernel_rfl) (fun _ _ _ h => h) (Or.inr ⟨by rfl, rfl⟩) ?_) | (refine wpAny_take (i := 7) (v := ?_) rfl (by kernel_rfl) (by kernel_rfl) (by kernel_rfl) (fun _ _ _ h => h) ?_ ?_; rotate_left; focus (refine Or.inl ⟨by rfl, ?_⟩; intro _; go_simp; first | done | with_reducible rfl))
              try go_simp
              first | (refine wpAny_take (i := 8) (v := undef) rfl (by kernel_rfl) (by kernel_rfl) (by kernel_rfl) (fun _ _ _ h => h) (Or.inr ⟨by rfl, rfl⟩) ?_) | (refine wpAny_take (i := 8) (v := ?_) rfl (by kernel_rfl) (by kernel_rfl) (by kernel_rfl) (fun _ _ _ h => h) ?_ ?_; rotate_left; focus (refine Or.inl ⟨by rfl, ?_⟩; intro _; go_simp; first | done | with_reducible rfl))
              try go_simp
              first | (refine wpAny_take (i := 9) (v := undef) rfl (by kernel_rfl) (by kernel_rfl) (by kernel_rfl) (fun _ _ _ h => h) (Or.inr ⟨by rfl, rfl⟩) ?_) | (refine wpAny_take (i := 9) (v := ?_) rfl (by kernel_rfl) (by kernel_rfl) (by kernel_rfl) (fun _ _ _ h => h) ?_ ?_; rotate_left; focus (refine Or.inl ⟨by rfl, ?_⟩; intro _; go_simp; first | done | with_reducible rfl))
              try go_simp
              first | (refine wpAny_take (i := 10) (v := undef) rfl (by kernel_rfl) (by kernel_rfl) (by kernel_rfl) (fun _ _ _ h => h) (Or.inr ⟨by rfl, rfl⟩) ?_) | (refine wpAny_take (i := 10) (v := ?_) rfl (by kernel_rfl) (by kernel_rfl) (by kernel_rfl) (fun _ _ _ h => h) ?_ ?_; rotate_left; focus (refine Or.inl ⟨by rfl, ?_⟩; intro _; go_simp; first | done | with_reducible rfl))
              try go_simp
              first | (refine wpAny_take (i := 11) (v := undef) rfl (by kernel_rfl) (by kernel_rfl) (by kernel_rfl) (fun _ _ _ h => h) (Or.inr ⟨by rfl, rfl⟩) ?_) | (refine wpAny_take (i := 11) (v := ?_) rfl (by kernel_rfl) (by kernel_rfl) (by kernel_rfl) (fun _ _ _ h => h) ?_ ?_; rotate_left; focus (refine Or.inl ⟨by rfl, ?_⟩; intro _; go_simp; first | done | with_reducible rfl))
              try go_simp
              first | (refine wpAny_take (i := 12) (v := undef) rfl (by kernel_rfl) (by kernel_rfl) (by kernel_rfl) (fun _ _ _ h => h) (Or.inr ⟨by rfl, rfl⟩) ?_) | (refine wpAny_take (i := 12) (v := ?_) rfl (by kernel_rfl) (by kernel_rfl) (by kernel_rfl) (fun _ _ _ h => h) ?_ ?_; rotate_left; focus (refine Or.inl ⟨by rfl, ?_⟩; intro _; go_simp; first | done | with_reducible rfl))
              try go_simp
              first | (refine wpAny_take (i := 13) (v := undef) rfl (by kernel_rfl) (by kernel_rfl) (by kernel_rfl) (fun _ _ _ h => h) (Or.inr ⟨by rfl, rfl⟩) ?_) | (refine wpAny_take (i := 13) (v := ?_) rfl (by kernel_rfl) (by kernel_rfl) (by kernel_rfl) (fun _ _ _ h => h) ?_ ?_; rotate_left; focus (refine Or.inl ⟨by rfl, ?_⟩; intro _; go_simp; first | done | with_reducible rfl))
              try go_simp
              first | (refine wpAny_take (i := 14) (v := undef) rfl (by kernel_rfl) (by kernel_rfl) (by kernel_rfl) (fun _ _ _ h => h) (Or.inr ⟨by rfl, rfl⟩) ?_) | (refine wpAny_take (i := 14) (v := ?_) rfl (by kernel_rfl) (by kernel_rfl) (by kernel_rfl) (fun _ _ _ h => h) ?_ ?_; rotate_left; focus (refine Or.inl ⟨by rfl, ?_⟩; intro _; go_simp; first | done | with_reducible rfl))
              try go_simp
              first | (refine wpAny_take (i := 15) (v := undef) rfl (by kernel_rfl) (by kernel_rfl) (by kernel_rfl) (fun _ _ _ h => h) (Or.inr ⟨by rfl, rfl⟩) ?_) | (refine wpAny_take (i := 15) (v := ?_) rfl (by kernel_rfl) (by kernel_rfl) (by kernel_rfl) (fun _ _ _ h => h) ?_ ?_; rotate_left; focus (refine Or.inl ⟨by rfl, ?_⟩; intro _; go_simp; first | done | with_reducible rfl))
              try go_simp
              first | (refine wpAny_take (i := 16) (v := undef) rfl (by kernel_rfl) (by kernel_rfl) (by kernel_rfl) (fun _ _ _ h => h) (Or.inr ⟨by rfl, rfl⟩) ?_) | (refine wpAny_take (i := 16) (v := ?_) rfl (by kernel_rfl) (by kernel_rfl) (by kernel_rfl) (fun _ _ _ h => h) ?_ ?_; rotate_left; focus (refine Or.inl ⟨by rfl, ?_⟩; intro _; go_simp; first | done | with_reducible rfl))
              try go_simp
              first | (refine wpAny_take (i := 17) (v := undef) rfl (by kernel_rfl) (by kernel_rfl) (by kernel_rfl) (fun _ _ _ h => h) (Or.inr ⟨by rfl, rfl⟩) ?_) | (refine wpAny_take (i := 17) (v := ?_) rfl (by kernel_rfl) (by kernel_rfl) (by kernel_rfl) (fun _ _ _ h => h) ?_ ?_; rotate_left; focus (refine Or.inl ⟨by rfl, ?_⟩; intro _; go_simp; first | done | with_reducible rfl))
              try go_simp
              refine wpAny_ready (rs := [18]) (by kernel_rfl) (by simp) ?_
              refine AllReady.cons rfl (fun K hK => ?_) ?_
              ·
                refine step_wB0 rfl rfl Tryd.func12 nmAw bdAw (HW.out _ hMM) ?_
                intro wd hCd
                replace hZ := hZ.trans (hCd.mono hZ.size)
                obtain ⟨bm, hBB, hMM, hUU⟩ := HX.out _ hZ
                obtain ⟨p0, p1, p2, p3, p4, p5⟩ := bm.f6
                try go_simp
                refine hK _ _ ?_; clear hK K
                first | (refine wpAny_take (i := 19) (v := undef) rfl (by kernel_rfl) (by kernel_rfl) (by kernel_rfl) (fun _ _ _ h => h) (Or.inr ⟨by rfl, rfl⟩) ?_) | (refine wpAny_take (i := 19) (v := ?_) rfl (by kernel_rfl) (by kernel_rfl) (by kernel_rfl) (fun _ _ _ h => h) ?_ ?_; rotate_left; focus (refine Or.inl ⟨by rfl, ?_⟩; intro _; go_simp; first | done | with_reducible rfl))
                try go_simp
                refine wpAny_ready (rs := [20]) (by kernel_rfl) (by simp) ?_
                refine AllReady.cons rfl (fun K hK => ?_) ?_
                ·
                  go_simp
                  refine hK _ _ ?_; clear hK K
                  refine wpAny_done (by kernel_rfl) ?_ _
                  go_wp2
                  go_ret
                  exact ⟨rfl, hBB⟩
                exact AllReady.nil
              exact AllReady.nil
            exact AllReady.nil
          exact AllReady.nil
        exact AllReady.nil
      refine AllReady.cons rfl (fun K hK => ?_) ?_
      ·
        go_simp
        refine hK _ _ ?_; clear hK K
        refine wpAny_ready (rs := [2]) (by kernel_rfl) (by simp) ?_
        refine AllReady.cons rfl (fun K hK => ?_) ?_
        ·
          refine step_wX2 rfl rfl Tryd.func17 nmAl bdAl rfl rfl (HA.out _ hUU) ?_
          intro va wa hRa
          obtain ⟨hva, hCa⟩ := hRa
          replace hZ := hZ.trans (hCa.mono hZ.size)
          obtain ⟨bm, hBB, hMM, hUU⟩ := HX.out _ hZ
          obtain ⟨p0, p1, p2, p3, p4, p5⟩ := bm.f6
          try go_simp
          refine hK _ _ ?_; clear hK K
          refine wpAny_ready (rs := [5]) (by kernel_rfl) (by simp) ?_
          refine AllReady.cons rfl (fun K hK => ?_) ?_
          ·
            refine step_wX2 rfl rfl Tryd.func18 nmAlR bdAlR rfl rfl (HAR.out _ hUU) ?_
            intro vb wb hRb
            obtain ⟨hvb, hCb⟩ := hRb
            replace hva := hva.below hCb (Nat.le_refl _)
            replace hZ := hZ.trans (hCb.mono hZ.size)
            obtain ⟨bm, hBB, hMM, hUU⟩ := HX.out _ hZ
            obtain ⟨p0, p1, p2, p3, p4, p5⟩ := bm.f6
            try go_simp
            refine hK _ _ ?_; clear hK K
            refine wpAny_ready (rs := [6]) (by kernel_rfl) (by simp) ?_
            refine AllReady.cons rfl (fun K hK => ?_) ?_
            ·
              refine step_wB2 rfl rfl Tryd.func16 nmTx bdTx rfl rfl (HT.out _ _ _ hva hvb) ?_
              intro wc hCc
              replace hZ := hZ.trans (hCc.mono hZ.size)
              obtain ⟨bm, hBB, hMM, hUU⟩ := HX.out _ hZ
              obtain ⟨p0, p1, p2, p3, p4, p5⟩ := bm.f6
              try go_simp
              refine hK _ _ ?_; clear hK K
              first | (refine wpAny_take (i := 7) (v := undef) rfl (by kernel_rfl) (by kernel_rfl) (by kernel_rfl) (fun _ _ _ h => h) (Or.inr ⟨by rfl, rfl⟩) ?_) | (refine wpAny_take (i := 7) (v := ?_) rfl (by kernel_rfl) (by kernel_rfl) (by kernel_rfl) (fun _ _ _ h => h) ?_ ?_; rotate_left; focus (refine Or.inl ⟨by rfl, ?_⟩; intro _; go_simp; first | done | with_reducible rfl))
              try go_simp
              first | (refine wpAny_take (i := 8) (v := undef) rfl (by kernel_rfl) (by kernel_rfl) (by kernel_rfl) (fun _ _ _ h => h) (Or.inr ⟨by rfl, rfl⟩) ?_) | (refine wpAny_take (i := 8) (v := ?_) rfl (by kernel_rfl) (by kernel_rfl) (by kernel_rfl) (fun _ _ _ h => h) ?_ ?_; rotate_left; focus (refine Or.inl ⟨by rfl, ?_⟩; intro _; go_simp; first | done | with_reducible rfl))
              try go_simp
              first | (refine wpAny_take (i := 9) (v := undef) rfl (by kernel_rfl) (by kernel_rfl) (by kernel_rfl) (fun _ _ _ h => h) (Or.inr ⟨by rfl, rfl⟩) ?_) | (refine wpAny_take (i := 9) (v := ?_) rfl (by kernel_rfl) (by kernel_rfl) (by kernel_rfl) (fun _ _ _ h => h) ?_ ?_; rotate_left; focus (refine Or.inl ⟨by rfl, ?_⟩; intro _; go_simp; first | done | with_reducible rfl))
              try go_simp
              first | (refine wpAny_take (i := 10) (v := undef) rfl (by kernel_rfl) (by kernel_rfl) (by kernel_rfl) (fun _ _ _ h => h) (Or.inr ⟨by rfl, rfl⟩) ?_) | (refine wpAny_take (i := 10) (v := ?_) rfl (by kernel_rfl) (by kernel_rfl) (by kernel_rfl) (fun _ _ _ h => h) ?_ ?_; rotate_left; focus (refine Or.inl ⟨by rfl, ?_⟩; intro _; go_simp; first | done | with_reducible rfl))
              try go_simp
              first | (refine wpAny_take (i := 11) (v := undef) rfl (by kernel_rfl) (by kernel_rfl) (by kernel_rfl) (fun _ _ _ h => h) (Or.inr ⟨by rfl, rfl⟩) ?_) | (refine wpAny_take (i := 11) (v := ?_) rfl (by kernel_rfl) (by kernel_rfl) (by kernel_rfl) (fun _ _ _ h => h) ?_ ?_; rotate_left; focus (refine Or.inl ⟨by rfl, ?_⟩; intro _; go_simp; first | done | with_reducible rfl))
              try go_simp
              first | (refine wpAny_take (i := 12) (v := undef) rfl (by kernel_rfl) (by kernel_rfl) (by kernel_rfl) (fun _ _ _ h => h) (Or.inr ⟨by rfl, rfl⟩) ?_) | (refine wpAny_take (i := 12) (v := ?_) rfl (by kernel_rfl) (by kernel_rfl) (by kernel_rfl) (fun _ _ _ h => h) ?_ ?_; rotate_left; focus (refine Or.inl ⟨by rfl, ?_⟩; intro _; go_simp; first | done | with_reducible rfl))
              try go_simp
              first | (refine wpAny_take (i := 13) (v := undef) rfl (by kernel_rfl) (by kernel_rfl) (by kernel_rfl) (fun _ _ _ h => h) (Or.inr ⟨by rfl, rfl⟩) ?_) | (refine wpAny_take (i := 13) (v := ?_) rfl (by kernel_rfl) (by kernel_rfl) (by kernel_rfl) (fun _ _ _ h => h) ?_ ?_; rotate_left; focus (refine Or.inl ⟨by rfl, ?_⟩; intro _; go_simp; first | done | with_reducible rfl))
              try go_simp
              first | (refine wpAny_take (i := 14) (v := undef) rfl (by kernel_rfl) (by kernel_rfl) (by kernel_rfl) (fun _ _ _ h => h) (Or.inr ⟨by rfl, rfl⟩) ?_) | (refine wpAny_take (i := 14) (v := ?_) rfl (by kernel_rfl) (by kernel_rfl) (by kernel_rfl) (fun _ _ _ h => h) ?_ ?_; rotate_left; focus (refine Or.inl ⟨by rfl, ?_⟩; intro _; go_simp; first | done | with_reducible rfl))
              try go_simp
              first | (refine wpAny_take (i := 15) (v := undef) rfl (by kernel_rfl) (by kernel_rfl) (by kernel_rfl) (fun _ _ _ h => h) (Or.inr ⟨by rfl, rfl⟩) ?_) | (refine wpAny_take (i := 15) (v := ?_) rfl (by kernel_rfl) (by kernel_rfl) (by kernel_rfl) (fun _ _ _ h => h) ?_ ?_; rotate_left; focus (refine Or.inl ⟨by rfl, ?_⟩; intro _; go_simp; first | done | with_reducible rfl))
              try go_simp
              first | (refine wpAny_take (i := 16) (v := undef) rfl (by kernel_rfl) (by kernel_rfl) (by kernel_rfl) (fun _ _ _ h => h) (Or.inr ⟨by rfl, rfl⟩) ?_) | (refine wpAny_take (i := 16) (v := ?_) rfl (by kernel_rfl) (by kernel_rfl) (by kernel_rfl) (fun _ _ _ h => h) ?_ ?_; rotate_left; focus (refine Or.inl ⟨by rfl, ?_⟩; intro _; go_simp; first | done | with_reducible rfl))
              try go_simp
              first | (refine wpAny_take (i := 17) (v := undef) rfl (by kernel_rfl) (by kernel_rfl) (by kernel_rfl) (fun _ _ _ h => h) (Or.inr ⟨by rfl, rfl⟩) ?_) | (refine wpAny_take (i := 17) (v := ?_) rfl (by kernel_rfl) (by kernel_rfl) (by kernel_rfl) (fun _ _ _ h => h) ?_ ?_; rotate_left; focus (refine Or.inl ⟨by rfl, ?_⟩; intro _; go_simp; first | done | with_reducible rfl))
              try go_simp
              refine wpAny_ready (rs := [18]) (by kernel_rfl) (by simp) ?_
              refine AllReady.cons rfl (fun K hK => ?_) ?_
              ·
                refine step_wB0 rfl rfl Tryd.func12 nmAw bdAw (HW.out _ hMM) ?_
                intro wd hCd
                replace hZ := hZ.trans (hCd.mono hZ.size)
                obtain ⟨bm, hBB, hMM, hUU⟩ := HX.out _ hZ
                obtain ⟨p0, p1, p2, p3, p4, p5⟩ := bm.f6
                try go_simp
                refine hK _ _ ?_; clear hK K
                first | (refine wpAny_take (i := 19) (v := undef) rfl (by kernel_rfl) (by kernel_rfl) (by kernel_rfl) (fun _ _ _ h => h) (Or.inr ⟨by rfl, rfl⟩) ?_) | (refine wpAny_take (i := 19) (v := ?_) rfl (by kernel_rfl) (by kernel_rfl) (by kernel_rfl) (fun _ _ _ h => h) ?_ ?_; rotate_left; focus (refine Or.inl ⟨by rfl, ?_⟩; intro _; go_simp; first | done | with_reducible rfl))
                try go_simp
                refine wpAny_ready (rs := [20]) (by kernel_rfl) (by simp) ?_
                refine AllReady.cons rfl (fun K hK => ?_) ?_
                ·
                  go_simp
                  refine hK _ _ ?_; clear hK K
                  refine wpAny_done (by kernel_rfl) ?_ _
                  go_wp2
                  go_ret
                  exact ⟨rfl, hBB⟩
                exact AllReady.nil
              exact AllReady.nil
            exact AllReady.nil
          exact AllReady.nil
        exact AllReady.nil
      exact AllReady.nil
    refine AllReady.cons rfl (fun K hK => ?_) ?_
    ·
      go_simp
      refine hK _ _ ?_; clear hK K
      refine wpAny_ready (rs := [0]) (by kernel_rfl) (by simp) ?_
      refine AllReady.cons rfl (fun K hK => ?_) ?_
      ·
        go_simp
        refine hK _ _ ?_; clear hK K
        refine wpAny_ready (rs := [2]) (by kernel_rfl) (by simp) ?_
        refine AllReady.cons rfl (fun K hK => ?_) ?_
        ·
          refine step_wX2 rfl rfl Tryd.func17 nmAl bdAl rfl rfl (HA.out _ hUU) ?_
          intro va wa hRa
          obtain ⟨hva, hCa⟩ := hRa
          replace hZ := hZ.trans (hCa.mono hZ.size)
          obtain ⟨bm, hBB, hMM, hUU⟩ := HX.out _ hZ
          obtain ⟨p0, p1, p2, p3, p4, p5⟩ := bm.f6
          try go_simp
          refine hK _ _ ?_; clear hK K
          refine wpAny_ready (rs := [5]) (by kernel_rfl) (by simp) ?_
          refine AllReady.cons rfl (fun K hK => ?_) ?_
          ·
            refine step_wX2 rfl rfl Tryd.func18 nmAlR bdAlR rfl rfl (HAR.out _ hUU) ?_
            intro vb wb hRb
            obtain ⟨hvb, hCb⟩ := hRb
            replace hva := hva.below hCb (Nat.le_refl _)
            replace hZ := hZ.trans (hCb.mono hZ.size)
            obtain ⟨bm, hBB, hMM, hUU⟩ := HX.out _ hZ
            obtain ⟨p0, p1, p2, p3, p4, p5⟩ := bm.f6
            try go_simp
            refine hK _ _ ?_; clear hK K
            refine wpAny_ready (rs := [6]) (by kernel_rfl) (by simp) ?_
            refine AllReady.cons rfl (fun K hK => ?_) ?_
            ·
              refine step_wB2 rfl rfl Tryd.func16 nmTx bdTx rfl rfl (HT.out _ _ _ hva hvb) ?_
              intro wc hCc
              replace hZ := hZ.trans (hCc.mono hZ.size)
              obtain ⟨bm, hBB, hMM, hUU⟩ := HX.out _ hZ
              obtain ⟨p0, p1, p2, p3, p4, p5⟩ := bm.f6
              try go_simp
              refine hK _ _ ?_; clear hK K
              first | (refine wpAny_take (i := 7) (v := undef) rfl (by kernel_rfl) (by kernel_rfl) (by kernel_rfl) (fun _ _ _ h => h) (Or.inr ⟨by rfl, rfl⟩) ?_) | (refine wpAny_take (i := 7) (v := ?_) rfl (by kernel_rfl) (by kernel_rfl) (by kernel_rfl) (fun _ _ _ h => h) ?_ ?_; rotate_left; focus (refine Or.inl ⟨by rfl, ?_⟩; intro _; go_simp; first | done | with_reducible rfl))
              try go_simp
              first | (refine wpAny_take (i := 8) (v := undef) rfl (by kernel_rfl) (by kernel_rfl) (by kernel_rfl) (fun _ _ _ h => h) (Or.inr ⟨by rfl, rfl⟩) ?_) | (refine wpAny_take (i := 8) (v := ?_) rfl (by kernel_rfl) (by kernel_rfl) (by kernel_rfl) (fun _ _ _ h => h) ?_ ?_; rotate_left; focus (refine Or.inl ⟨by rfl, ?_⟩; intro _; go_simp; first | done | with_reducible rfl))
              try go_simp
              first | (refine wpAny_take (i := 9) (v := undef) rfl (by kernel_rfl) (by kernel_rfl) (by kernel_rfl) (fun _ _ _ h => h) (Or.inr ⟨by rfl, rfl⟩) ?_) | (refine wpAny_take (i := 9) (v := ?_) rfl (by kernel_rfl) (by kernel_rfl) (by kernel_rfl) (fun _ _ _ h => h) ?_ ?_; rotate_left; focus (refine Or.inl ⟨by rfl, ?_⟩; intro _; go_simp; first | done | with_reducible rfl))
              try go_simp
              first | (refine wpAny_take (i := 10) (v := undef) rfl (by kernel_rfl) (by kernel_rfl) (by kernel_rfl) (fun _ _ _ h => h) (Or.inr ⟨by rfl, rfl⟩) ?_) | (refine wpAny_take (i := 10) (v := ?_) rfl (by kernel_rfl) (by kernel_rfl) (by kernel_rfl) (fun _ _ _ h => h) ?_ ?_; rotate_left; focus (refine Or.inl ⟨by rfl, ?_⟩; intro _; go_simp; first | done | with_reducible rfl))
              try go_simp
              first | (refine wpAny_take (i := 11) (v := undef) rfl (by kernel_rfl) (by kernel_rfl) (by kernel_rfl) (fun _ _ _ h => h) (Or.inr ⟨by rfl, rfl⟩) ?_) | (refine wpAny_take (i := 11) (v := ?_) rfl (by kernel_rfl) (by kernel_rfl) (by kernel_rfl) (fun _ _ _ h => h) ?_ ?_; rotate_left; focus (refine Or.inl ⟨by rfl, ?_⟩; intro _; go_simp; first | done | with_reducible rfl))
              try go_simp
              first | (refine wpAny_take (i := 12) (v := undef) rfl (by kernel_rfl) (by kernel_rfl) (by kernel_rfl) (fun _ _ _ h => h) (Or.inr ⟨by rfl, rfl⟩) ?_) | (refine wpAny_take (i := 12) (v := ?_) rfl (by kernel_rfl) (by kernel_rfl) (by kernel_rfl) (fun _ _ _ h => h) ?_ ?_; rotate_left; focus (refine Or.inl ⟨by rfl, ?_⟩; intro _; go_simp; first | done | with_reducible rfl))
              try go_simp
              first | (refine wpAny_take (i := 13) (v := undef) rfl (by kernel_rfl) (by kernel_rfl) (by kernel_rfl) (fun _ _ _ h => h) (Or.inr ⟨by rfl, rfl⟩) ?_) | (refine wpAny_take (i := 13) (v := ?_) rfl (by kernel_rfl) (by kernel_rfl) (by kernel_rfl) (fun _ _ _ h => h) ?_ ?_; rotate_left; focus (refine Or.inl ⟨by rfl, ?_⟩; intro _; go_simp; first | done | with_reducible rfl))
              try go_simp
              first | (refine wpAny_take (i := 14) (v := undef) rfl (by kernel_rfl) (by kernel_rfl) (by kernel_rfl) (fun _ _ _ h => h) (Or.inr ⟨by rfl, rfl⟩) ?_) | (refine wpAny_take (i := 14) (v := ?_) rfl (by kernel_rfl) (by kernel_rfl) (by kernel_rfl) (fun _ _ _ h => h) ?_ ?_; rotate_left; focus (refine Or.inl ⟨by rfl, ?_⟩; intro _; go_simp; first | done | with_reducible rfl))
              try go_simp
              first | (refine wpAny_take (i := 15) (v := undef) rfl (by kernel_rfl) (by kernel_rfl) (by kernel_rfl) (fun _ _ _ h => h) (Or.inr ⟨by rfl, rfl⟩) ?_) | (refine wpAny_take (i := 15) (v := ?_) rfl (by kernel_rfl) (by kernel_rfl) (by kernel_rfl) (fun _ _ _ h => h) ?_ ?_; rotate_left; focus (refine Or.inl ⟨by rfl, ?_⟩; intro _; go_simp; first | done | with_reducible rfl))
              try go_simp
              first | (refine wpAny_take (i := 16) (v := undef) rfl (by kernel_rfl) (by kernel_rfl) (by kernel_rfl) (fun _ _ _ h => h) (Or.inr ⟨by rfl, rfl⟩) ?_) | (refine wpAny_take (i := 16) (v := ?_) rfl (by kernel_rfl) (by kernel_rfl) (by kernel_rfl) (fun _ _ _ h => h) ?_ ?_; rotate_left; focus (refine Or.inl ⟨by rfl, ?_⟩; intro _; go_simp; first | done | with_reducible rfl))
              try go_simp
              first | (refine wpAny_take (i := 17) (v := undef) rfl (by kernel_rfl) (by kernel_rfl) (by kernel_rfl) (fun _ _ _ h => h) (Or.inr ⟨by rfl, rfl⟩) ?_) | (refine wpAny_take (i := 17) (v := ?_) rfl (by kernel_rfl) (by kernel_rfl) (by kernel_rfl) (fun _ _ _ h => h) ?_ ?_; rotate_left; focus (refine Or.inl ⟨by rfl, ?_⟩; intro _; go_simp; first | done | with_reducible rfl))
              try go_simp
              refine wpAny_ready (rs := [18]) (by kernel_rfl) (by simp) ?_
              refine AllReady.cons rfl (fun K hK => ?_) ?_
              ·
                refine step_wB0 rfl rfl Tryd.func12 nmAw bdAw (HW.out _ hMM) ?_
                intro wd hCd
                replace hZ := hZ.trans (hCd.mono hZ.size)
                obtain ⟨bm, hBB, hMM, hUU⟩ := HX.out _ hZ
                obtain ⟨p0, p1, p2, p3, p4, p5⟩ := bm.f6
                try go_simp
                refine hK _ _ ?_; clear hK K
                first | (refine wpAny_take (i := 19) (v := undef) rfl (by kernel_rfl) (by kernel_rfl) (by kernel_rfl) (fun _ _ _ h => h) (Or.inr ⟨by rfl, rfl⟩) ?_) | (refine wpAny_take (i := 19) (v := ?_) rfl (by kernel_rfl) (by kernel_rfl) (by kernel_rfl) (fun _ _ _ h => h) ?_ ?_; rotate_left; focus (refine Or.inl ⟨by rfl, ?_⟩; intro _; go_simp; first | done | with_reducible rfl))
                try go_simp
                refine wpAny_ready (rs := [20]) (by kernel_rfl) (by simp) ?_
                refine AllReady.cons rfl (fun K hK => ?_) ?_
                ·
                  go_simp
                  refine hK _ _ ?_; clear hK K
                  refine wpAny_done (by kernel_rfl) ?_ _
                  go_wp2
                  go_ret
                  exact ⟨rfl, hBB⟩
                exact AllReady.nil
              exact AllReady.nil
            exact AllReady.nil
          exact AllReady.nil
        exact AllReady.nil
      exact AllReady.nil
    exact AllReady.nil

end Go.Proofs.YtgpbnbaegghajaaDoor
