/- Contracts of Go functions, and plain laws. No condition but those told. -/
import Derived.Test.YtipdiddjhimdcaaGreatDoorS01
set_option linter.unusedSimpArgs false
set_option linter.unusedVariables false
set_option maxRecDepth 100000
namespace Go.Proofs.YtipdiddjhimdcaaGreatDoor
open Go.RowKit
section
variable {P : Program} {ops : Array Oper} {o : Oper} {a : Act} {Q : Exit → Act → World → Prop}
theorem step_wV2 {K : Act → World → Prop} {w : World} {E : Prop} {f : FuncId} {x y : Operand} {ts : Array TypeId} {v0 v1 v : Value}
  (hw : Region.wanted o (yielded ops a.tmps) = true) (ho : o.op = .call { callee := .value (.func f), args := #[x, y], argTypes := ts }) {fn : Func} (hf : P.funcs[f]? = some fn) (hnm : (fn.name == "runtime.NumGoroutine") = false) (hbd : fn.body.isNone = false)
  (hx : a.eval x = v0) (hy : a.eval y = v1) (hC : Calls P f #[v0, v1] w fun e w' => e = .returned v ∧ Below w.heap.size w w') (hK : ∀ w', Below w.heap.size w w' → K (a.put o.dst v) w') :
  if Region.wanted o (yielded ops a.tmps) = true then Oper.wp P o a w K Q else E := by
 rw [if_pos hw]
 unfold Oper.wp
 have h1 : fn.name ≠ "runtime.NumGoroutine" := by simpa using hnm
 have h2 : fn.body ≠ none := by intro e; rw [e] at hbd; cases hbd
 have hrun : (execOp a.eval o).run P w = .ok (.enter f #[v0, v1]) w := by
  subst hx hy
  simp [execOp, ho, resolve, Deferred.ofValue, invoke, callFunc, Act.eval, hf, h1, h2, Result.andThen]
 rw [hrun]
 refine hC.mono ?_
 rintro e w' ⟨rfl, hR⟩
 exact hK w' hR
theorem step_wU2 {K : Act → World → Prop} {w : World} {E : Prop} {R : Value → World → Prop} {f : FuncId} {x y : Operand} {ts : Array TypeId} {v0 v1 : Value}
  (hw : Region.wanted o (yielded ops a.tmps) = true) (ho : o.op = .call { callee := .value (.func f), args := #[x, y], argTypes := ts }) {fn : Func} (hf : P.funcs[f]? = some fn) (hnm : (fn.name == "runtime.NumGoroutine") = false) (hbd : fn.body.isNone = false)
  (hx : a.eval x = v0) (hy : a.eval y = v1) (hC : Calls P f #[v0, v1] w fun e w' => ∃ v, e = .returned v ∧ R v w') (hK : ∀ v w', R v w' → K (a.put o.dst v) w') :
  if Region.wanted o (yielded ops a.tmps) = true then Oper.wp P o a w K Q else E := by
 rw [if_pos hw]
 unfold Oper.wp
 have h1 : fn.name ≠ "runtime.NumGoroutine" := by simpa using hnm
 have h2 : fn.body ≠ none := by intro e; rw [e] at hbd; cases hbd
 have hrun : (execOp a.eval o).run P w = .ok (.enter f #[v0, v1]) w := by
  subst hx hy
  simp [execOp, ho, resolve, Deferred.ofValue, invoke, callFunc, Act.eval, hf, h1, h2, Result.andThen]
 rw [hrun]
 refine hC.mono ?_
 rintro e w' ⟨v, rfl, hR⟩
 exact hK v w' hR
end
theorem nmWsU : (Tryz.f84.name == "runtime.NumGoroutine") = false := by kernel_rfl
theorem bdWsU : Tryz.f84.body.isNone = false := by kernel_rfl
theorem nmPr : (Tryz.f86.name == "runtime.NumGoroutine") = false := by kernel_rfl
theorem bdPr : Tryz.f86.body.isNone = false := by kernel_rfl
theorem bld_writeU (B b : Nat) (l : List UInt8) (s : ByteArray) (w : World) (h : Bld B b l w) (hlen : l.length + s.size ≤ 140737488355328) (hBw : B ≤ w.heap.size) :
  Calls Tryz.prog 84 #[.pointer (some ⟨b, 0, none⟩), .string s] w fun e w' => ∃ v, e = .returned v ∧ (v = .tuple #[.int .i64 s.size, .nilIface] ∧ Bld B b (l ++ us s) w' ∧ Below B w w') :=
 (bld_write B b l s w h hlen hBw).mono fun _ _ ⟨x, y⟩ => ⟨_, x, rfl, y⟩
theorem psT_take (F : List Prm) (k : Nat) (h : k < F.length) : psT (F.take (k + 1)) = psT (F.take k) ++ 59 :: pairS F[k] kParams := by
 unfold psT
 rw [List.take_succ_eq_append_getElem h, List.flatMap_append]; simp
def hsep (k : Nat) : List UInt8 := if k = 0 then [63] else [38]
theorem hsT_take (G : List Prm) (k : Nat) (h : k < G.length) : hsT (G.take (k + 1)) = hsT (G.take k) ++ (hsep k ++ pairS G[k] kHeaders) := by
 cases G with
 | nil => simp at h
 | cons p r =>
  cases k with
  | zero => simp [hsT, hsep]
  | succ k =>
   have hk : k < r.length := by simpa using h
   rw [List.take_succ_cons, List.take_succ_cons, hsT, hsT, List.take_succ_eq_append_getElem hk, List.flatMap_append]
   simp [hsep]
def headU (u : Uri) : List UInt8 := u.scheme ++ 58 :: (userT u.user ++ (u.host ++ portT u.port))
theorem textU_head (u : Uri) : textU u = (headU u ++ psT u.ps) ++ hsT u.hs := by unfold textU headU; simp
theorem sepRun (k : Nat) : ((⟨#[63, 38]⟩ : ByteArray).extract (min k 1) 2).extract 0 1 = bs (hsep k) := by
 unfold hsep
 by_cases h : k = 0
 ·subst h; rfl
 ·rw [if_neg h, show min k 1 = 1 by omega]; rfl
set_option maxHeartbeats 12800000 in
theorem printU_c (S U H : ByteArray) (n : Int) (u1 u2 : Value) (F G : List Prm) (hS : S.size ≤ 4294967280) (hH : H.size ≤ 4294967280) (hn0 : -9223372036854775808 ≤ n) (hn1 : n ≤ 9223372036854775807) (w : World) (hm : Ml w) (h1 : RPrms w u1 F) (h2 : RPrms w u2 G) (hb1 : ∀ p ∈ F, p.name.length ≤ 4294967280 ∧ p.value.length ≤ 4294967280) (hb2 : ∀ p ∈ G, p.name.length ≤ 4294967280 ∧ p.value.length ≤ 4294967280) :
  Calls Tryz.prog 38 #[.agg #[.string S, .string U, .string H, .int .i64 n, u1, u2]] w fun e w' => e = .returned (.tuple #[.string (bs (printU ⟨us S, us U, us H, n, F, G⟩).1), .int .i64 (printU ⟨us S, us U, us H, n, F, G⟩).2]) ∧ Below w.heap.size w w' := by
 have HU1 := κ h1
 have HU2 := κ h2
 have HM := κ hm
 obtain ⟨ao, ac, rfl, hm1, c1⟩ := h1.form
 obtain ⟨bo, bc, rfl, hm2, c2⟩ := h2.form
 have C1 := κ c1
 have C2 := κ c2
 have HCK := κ (fun wx hx h1 h2 => checkU_c S U H n (.slice ao F.length ac) (.slice bo G.length bc) F G hS hH wx hx h1 h2 hb1 hb2)
 have HDG := κ (fun wx => digits_c n hn0 hn1 wx)
 unfold maxLen at hm1 hm2
 have hpr : printU ⟨us S, us U, us H, n, F, G⟩ = if checkU ⟨us S, us U, us H, n, F, G⟩ = 0 then (textU ⟨us S, us U, us H, n, F, G⟩, 0) else ([], checkU ⟨us S, us U, us H, n, F, G⟩) := rfl
 have hpt := checkU_parts ⟨us S, us U, us H, n, F, G⟩
 have hth := textU_head ⟨us S, us U, us H, n, F, G⟩
 have hhd : headU ⟨us S, us U, us H, n, F, G⟩ = us S ++ 58 :: (userT (us U) ++ (us H ++ portT n)) := rfl
 dsimp only at hpt hth
 obtain ⟨PU, hPU⟩ : ∃ x, x = printU ⟨us S, us U, us H, n, F, G⟩ := ⟨_, rfl⟩
 rw [← hPU] at hpr ⊢
 obtain ⟨C, hC⟩ : ∃ C, C = checkU ⟨us S, us U, us H, n, F, G⟩ := ⟨_, rfl⟩
 rw [← hC] at hpr hpt HCK
 obtain ⟨TU, hTU⟩ : ∃ x, x = textU ⟨us S, us U, us H, n, F, G⟩ := ⟨_, rfl⟩
 rw [← hTU] at hpr hth
 obtain ⟨HDu, hHDu⟩ : ∃ x, x = headU ⟨us S, us U, us H, n, F, G⟩ := ⟨_, rfl⟩
 rw [← hHDu] at hth hhd
 clear hPU hC hTU hHDu c1 c2 h1 h2 hm1 hm
 have hB0 : Below w.heap.size w (w.alloc (.cells #[.string S, .string U, .string H, .int .i64 n, .slice ao F.length ac, .slice bo G.length bc] 24)) := (Below.refl _ _).alloc (ρ _) _
 have bm0 := Blk.new w 24 #[.string S, .string U, .string H, .int .i64 n, .slice ao F.length ac, .slice bo G.length bc]
 obtain ⟨w0, hw0⟩ : ∃ w0, w0 = w.alloc (.cells #[.string S, .string U, .string H, .int .i64 n, .slice ao F.length ac, .slice bo G.length bc] 24) := ⟨_, rfl⟩
 rw [← hw0] at hB0 bm0
 have HX := κ (fun (wx : World) (h : Below w0.heap.size w0 wx) => (show Blk wx w.heap.size 24 #[.string S, .string U, .string H, .int .i64 n, .slice ao F.length ac, .slice bo G.length bc] ∧ Below w.heap.size w wx ∧ RPrms wx (.slice ao F.length ac) F ∧ RPrms wx (.slice bo G.length bc) G from by
  have hx := hB0.trans (h.mono hB0.size)
  exact ⟨bm0.call h, hx, HU1.out.below hx (ρ _), HU2.out.below hx (ρ _)⟩))
 have HW0 := κ hw0
 have hM0 := κ (HM.out.below hB0)
 have hZ : Below w0.heap.size w0 w0 := Below.refl _ _
 obtain ⟨bm, hBB, hU1, hU2⟩ := HX.out _ hZ
 obtain ⟨p0, p1, p2, p3, p4, p5⟩ := blk_f6 bm
 clear hw0 bm0
 by_cases hc : C = 0
 case neg =>
  rw [if_neg hc] at hpr
  have t0 : (C != 0) = true := by simpa using hc
  have HPR := κ hpr
  clear hpr hpt hth hhd hc
  go_enter Tryz.func38, Tryz.ntmps38
  go_wp2_with (go_at_call 81; (try rw [← HW0.out]); refine (HCK.out _ hM0.out hU1 hU2).mono ?_; rintro e w1 ⟨rfl, hC1⟩)
  go_ret2
  exact ⟨ret_si (p := PU) (by rw [HPR.out]; rfl), hBB.trans (hC1.mono hBB.size)⟩
 obtain ⟨s1, u64, h1', n0, n1, l1, l2, hall⟩ := hpt hc
 subst hc
 rw [if_pos rfl] at hpr
 obtain ⟨_, _, s4, _, _⟩ := scheme_facts _ s1
 have h64 := (host_low _ h1').2.2
 rw [length_us] at s4 u64 h64
 have hF := (listU_ok l1)
 have hG := (listU_ok l2)
 have hpT := fun k => psT_le (F.take k) (fun p hp => ⟨(hF.2 p (List.mem_of_mem_take hp)).2.1, (hF.2 p (List.mem_of_mem_take hp)).2.2.1⟩)
 have hgT := fun k => hsT_le (G.take k) (fun p hp => ⟨(hG.2 p (List.mem_of_mem_take hp)).2.1, (hG.2 p (List.mem_of_mem_take hp)).2.2.1⟩)
 have hF16 := hF.1
 have hG16 := hG.1
 have hFl := κ (fun p hp => (hF.2 p hp).2)
 have hGl := κ (fun p hp => (hG.2 p hp).2)
 have HPT := κ hpT
 have HGT := κ hgT
 have HPR := κ hpr
 have HTH := κ hth
 have HEU := κ (fun wx => escape_c U ⟨#[38, 61, 43, 36, 44, 59, 63, 47]⟩ (by omega) (by decide) wx)
 rw [show us ⟨#[38, 61, 43, 36, 44, 59, 63, 47]⟩ = kUsers from rfl] at HEU
 have hel := escape_le (us U) kUsers
 rw [length_us] at hel
 have hut : userT (us U) = if us U = [] then [] else escape (us U) kUsers ++ [64] := rfl
 have hpo : portT n = if 0 < n then 58 :: digits n else [] := rfl
 have hpl := portT_len n
 rw [hpo] at hpl
 rw [hut, hpo] at hhd
 obtain ⟨EU, hEU⟩ : ∃ x, x = bs (escape (us U) kUsers) := ⟨_, rfl⟩
 have uEU : escape (us U) kUsers = us EU := by rw [hEU, us_bs]
 rw [← hEU] at HEU
 rw [uEU] at hhd hel
 rw [length_us] at hel
 obtain ⟨DG, hDG⟩ : ∃ x, x = bs (digits n) := ⟨_, rfl⟩
 have uDG : digits n = us DG := by rw [hDG, us_bs]
 rw [← hDG] at HDG
 rw [uDG] at hhd hpl
 have hunil : us U = [] ↔ U.size = 0 := by rw [← length_us, List.length_eq_zero_iff]
 clear hpr hpt hth hall hF hG hpT hgT s1 h1' l1 l2 hut hpo hEU uEU hDG uDG
 have e1 : (⟨#[58]⟩ : ByteArray).size = 1 := rfl
 have e2 : (⟨#[64]⟩ : ByteArray).size = 1 := rfl
 have n2 : (0 : Int) ≤ n := n0
 have key : ∀ (w1 : World) (hB1 : Below w0.heap.size w0 w1) (wr : World) (l : List UInt8), True := fun _ _ _ _ => trivial
 clear key
 by_cases hu : U.size = 0 <;> by_cases hp : 0 < n
 ·rw [if_pos (hunil.2 hu)] at hhd
  obtain rfl := eq_empty hu
  clear hu hunil
  rw [if_pos hp] at hhd hpl
  rw [List.length_cons, length_us] at hpl
  have HHD := κ hhd
  clear hhd
  go_enter Tryz.func38, Tryz.ntmps38
  go_wp2_with (first | (go_at_call 81; (try rw [← HW0.out]); refine (HCK.out _ hM0.out hU1 hU2).mono ?_; rintro e w1 ⟨rfl, hC1⟩; have hB1 := hZ.trans (hC1.mono hZ.size); have hBld := Bld.new (heap_alloc_new w1 (.cells #[.pointer none, .slice none 0 0] 142)) (ρ _); have hBn : Below w1.heap.size w1 (w1.alloc (.cells #[.pointer none, .slice none 0 0] 142)) := (Below.refl _ _).alloc (ρ _) _; obtain ⟨bm1, hBB1, hU11, hU21⟩ := HX.out _ hB1; have HB1 := κ (fun (wx : World) (h : Below w1.heap.size w1 wx) => bm1.call h); obtain ⟨p0, p1, p2, p3, p4, p5⟩ := blk_f6 (HB1.out _ hBn)) | (go_at_call 85; (with_reducible refine (HEU.out _).mono ?_); rintro e we ⟨rfl, hCe⟩; have hBld := hBld.below hCe; have hBn := hBn.trans (hCe.mono hBn.size); obtain ⟨p0, p1, p2, p3, p4, p5⟩ := blk_f6 (HB1.out _ hBn)) | (go_at_call 83; (with_reducible refine (HDG.out _).mono ?_); rintro e we ⟨rfl, hCe⟩; have hBld := hBld.below hCe; have hBn := hBn.trans (hCe.mono hBn.size); obtain ⟨p0, p1, p2, p3, p4, p5⟩ := blk_f6 (HB1.out _ hBn)) | (go_at_call 84; (with_reducible refine (bld_write w1.heap.size w1.heap.size _ (S ++ ⟨#[58]⟩) _ hBld (by simp only [List.length_append, List.length_nil, length_us, ByteArray.size_append]; omega) hBn.size).mono ?_); rintro e wq ⟨rfl, hBld, hBq⟩; have hBn := hBn.trans hBq; obtain ⟨p0, p1, p2, p3, p4, p5⟩ := blk_f6 (HB1.out _ hBn)) | (go_at_call 84; (with_reducible refine (bld_write w1.heap.size w1.heap.size _ (H) _ hBld (by simp only [List.length_append, List.length_nil, length_us, ByteArray.size_append]; omega) hBn.size).mono ?_); rintro e wq ⟨rfl, hBld, hBq⟩; have hBn := hBn.trans hBq; obtain ⟨p0, p1, p2, p3, p4, p5⟩ := blk_f6 (HB1.out _ hBn)) | (go_at_call 84; (with_reducible refine (bld_write w1.heap.size w1.heap.size _ (⟨#[58]⟩ ++ DG) _ hBld (by simp only [List.length_append, List.length_nil, length_us, ByteArray.size_append]; omega) hBn.size).mono ?_); rintro e wq ⟨rfl, hBld, hBq⟩; have hBn := hBn.trans hBq; obtain ⟨p0, p1, p2, p3, p4, p5⟩ := blk_f6 (HB1.out _ hBn)))
  obtain ⟨HD, hHD⟩ : ∃ x, x = ((([] ++ us (S ++ ⟨#[58]⟩)) ++ us (H)) ++ us (⟨#[58]⟩ ++ DG)) := ⟨_, rfl⟩
  rw [← hHD] at hBld
  have hHDl : HD.length ≤ 400 := by rw [hHD]; simp only [List.length_append, List.length_nil, length_us, ByteArray.size_append]; omega
  have HHD2 := κ (show HD = HDu by rw [hHD, HHD.out]; simp [us])
  clear hHD
  have HB1w := κ (hBB1 : Below w.heap.size w w1)
  have hBl1 := hBld
  go_loopw [41] (fun i wr => ∃ (k : Nat) (l : List UInt8), k ≤ F.length ∧ i = .int .i64 k ∧ Hid (l = HD ++ psT (F.take k)) ∧ Bld w1.heap.size w1.heap.size l wr ∧ Below w1.heap.size w1 wr) (fun i _ => F.length - (intOf i).toNat)
  case atStart => exact ⟨0, HD, Nat.zero_le _, rfl, κ (by simp [psT]), hBld, hBn⟩
  case round =>
   obtain ⟨k, l, hk, rfl, HL, hWr, hBr⟩ := hrel
   have hBw : Below w.heap.size w wr := HB1w.out.trans (hBr.mono HB1w.out.size)
   by_cases hlt : k < F.length
   ·obtain ⟨b, off, rfl, hbl, hc1⟩ := C1.out (by omega)
    have hpp := hFl.out _ (List.getElem_mem hlt)
    have x0 : wr.cell? ⟨b, off + k * 3, none⟩ = some (sv F[k].name) := by rw [hBw.cell (p := ⟨b, off + k * 3, none⟩) hbl]; exact (hc1 k hlt).1
    have x1 : wr.cell? ⟨b, off + k * 3 + 1, none⟩ = some (sv F[k].value) := by rw [hBw.cell (p := ⟨b, off + k * 3 + 1, none⟩) hbl]; exact (hc1 k hlt).2.1
    have x2 : wr.cell? ⟨b, off + k * 3 + 2, none⟩ = some (.bool F[k].has) := by rw [hBw.cell (p := ⟨b, off + k * 3 + 2, none⟩) hbl]; exact (hc1 k hlt).2.2
    have HPP := κ (fun wx => pair_c F[k] ⟨#[91, 93, 47, 58, 38, 43, 36]⟩ (by omega) (by omega) (by decide) wx)
    rw [show us ⟨#[91, 93, 47, 58, 38, 43, 36]⟩ = kParams from rfl] at HPP
    have hpl2 := pair_le F[k] kParams hpp.1 hpp.2.1
    have hll : l.length ≤ 400 + 401 * 16 := by
     rw [HL.out, List.length_append]
     have := HPT.out k
     rw [List.length_take] at this
     omega
    have HN := κ (psT_take F k hlt)
    unfold pv sv at HPP
    unfold sv at x0 x1
    obtain ⟨PA, hPA⟩ : ∃ x, x = bs (pairS F[k] kParams) := ⟨_, rfl⟩
    have hPAs : PA.size ≤ 400 := by rw [hPA, size_bs]; exact hpl2
    have HPA := κ (show us PA = pairS F[k] kParams by rw [hPA, us_bs])
    rw [← hPA] at HPP
    obtain ⟨N, hN⟩ : ∃ N, N = bs F[k].name := ⟨_, rfl⟩
    obtain ⟨V, hV⟩ : ∃ V, V = bs F[k].value := ⟨_, rfl⟩
    rw [← hN] at x0 HPP
    rw [← hV] at x1 HPP
    obtain ⟨h, hh⟩ : ∃ h, h = F[k].has := ⟨_, rfl⟩
    rw [← hh] at x2 HPP
    have k0 : (0 : Int) ≤ (k : Int) := by omega
    have k1 : (k : Int) < (F.length : Int) := by omega
    have bx := Blk.new wr 85 #[.string N, .string V, .bool h]
    obtain ⟨y0, y1, y2, _, _, _, _⟩ := bx.f3
    have hWa := hWr.below ((Below.refl _ _).alloc (ρ _) (.cells #[.string N, .string V, .bool h] 85))
    have hBa := hBr.alloc hBr.size (.cells #[.string N, .string V, .bool h] 85)
    have hsz : l.length + (⟨#[59]⟩ ++ PA).size ≤ 140737488355328 := by rw [ByteArray.size_append]; show l.length + (1 + PA.size) ≤ _; omega
    clear hc1 hbl hpp hpl2 hPA hN hV hh bx
    go_wp2_with (first | (go_at_call 86; (with_reducible refine (HPP.out _).mono ?_); rintro e w4 ⟨rfl, hC4⟩; have hWa := hWa.below hC4; have hBa := hBa.trans (hC4.mono hBa.size)) | (go_at_call 84; (with_reducible refine (bld_write w1.heap.size w1.heap.size l _ _ hWa hsz hBa.size).mono ?_); rintro e w5 ⟨rfl, hW5, hB5⟩))
    go_roundw
    case rel => exact ⟨k + 1, _, by omega, by go_num, κ (by rw [HN.out, HL.out]; simp [us_append, HPA.out]; rfl), hW5, hBa.trans hB5⟩
    case measure => simp [intOf]; omega
   ·have hkF : k = F.length := by omega
    subst hkF
    rw [List.take_of_length_le (ρ _)] at HL
    obtain ⟨p0, p1, p2, p3, p4, p5⟩ := blk_f6 (HB1.out _ hBr)
    have hll : l.length ≤ 400 + 401 * 16 := by
     rw [HL.out, List.length_append]
     have := HPT.out F.length
     rw [List.take_of_length_le (ρ _)] at this
     omega
    obtain ⟨L1, hL1⟩ : ∃ x, x = l := ⟨_, rfl⟩
    rw [← hL1] at HL hWr hll
    clear hL1 hBl1 hBld hBn
    go_wp2
    go_loopw [53] (fun i wr => ∃ (k : Nat) (l : List UInt8), k ≤ G.length ∧ i = .int .i64 k ∧ Hid (l = L1 ++ hsT (G.take k)) ∧ Bld w1.heap.size w1.heap.size l wr ∧ Below w1.heap.size w1 wr) (fun i _ => G.length - (intOf i).toNat)
    case atStart => exact ⟨0, L1, Nat.zero_le _, rfl, κ (by simp [hsT]), hWr, hBr⟩
    case round =>
     clear hWr hBr hBw p0 p1 p2 p3 p4 p5
     obtain ⟨k, l, hk, rfl, HL2, hWr, hBr⟩ := hrel
     have hBw : Below w.heap.size w wr := HB1w.out.trans (hBr.mono HB1w.out.size)
     by_cases hlt : k < G.length
     ·obtain ⟨b, off, rfl, hbl, hc1⟩ := C2.out (by omega)
      have hpp := hGl.out _ (List.getElem_mem hlt)
      have x0 : wr.cell? ⟨b, off + k * 3, none⟩ = some (sv G[k].name) := by rw [hBw.cell (p := ⟨b, off + k * 3, none⟩) hbl]; exact (hc1 k hlt).1
      have x1 : wr.cell? ⟨b, off + k * 3 + 1, none⟩ = some (sv G[k].value) := by rw [hBw.cell (p := ⟨b, off + k * 3 + 1, none⟩) hbl]; exact (hc1 k hlt).2.1
      have x2 : wr.cell? ⟨b, off + k * 3 + 2, none⟩ = some (.bool G[k].has) := by rw [hBw.cell (p := ⟨b, off + k * 3 + 2, none⟩) hbl]; exact (hc1 k hlt).2.2
      have HPP := κ (fun wx => pair_c G[k] ⟨#[91, 93, 47, 63, 58, 43, 36]⟩ (by omega) (by omega) (by decide) wx)
      rw [show us ⟨#[91, 93, 47, 63, 58, 43, 36]⟩ = kHeaders from rfl] at HPP
      have hpl2 := pair_le G[k] kHeaders hpp.1 hpp.2.1
      have hl2 : l.length ≤ 400 + 401 * 16 + 401 * 16 := by
       rw [HL2.out, List.length_append]
       have := HGT.out k
       rw [List.length_take] at this
       omega
      have HN := κ (hsT_take G k hlt)
      unfold pv sv at HPP
      unfold sv at x0 x1
      obtain ⟨PA, hPA⟩ : ∃ x, x = bs (pairS G[k] kHeaders) := ⟨_, rfl⟩
      have hPAs : PA.size ≤ 400 := by rw [hPA, size_bs]; exact hpl2
      have HPA := κ (show us PA = pairS G[k] kHeaders by rw [hPA, us_bs])
      rw [← hPA] at HPP
      obtain ⟨N, hN⟩ : ∃ N, N = bs G[k].name := ⟨_, rfl⟩
      obtain ⟨V, hV⟩ : ∃ V, V = bs G[k].value := ⟨_, rfl⟩
      rw [← hN] at x0 HPP
      rw [← hV] at x1 HPP
      obtain ⟨h, hh⟩ : ∃ h, h = G[k].has := ⟨_, rfl⟩
      rw [← hh] at x2 HPP
      have k0 : (0 : Int) ≤ (k : Int) := by omega
      have k1 : (k : Int) < (G.length : Int) := by omega
      have hsz : l.length + (bs (hsep k) ++ PA).size ≤ 140737488355328 := by
       rw [ByteArray.size_append, size_bs]
       have : (hsep k).length ≤ 1 := by unfold hsep; split <;> decide
       omega
      have HSR := κ (sepRun k)
      clear hc1 hbl hpp hpl2 hPA hN hV hh
      have hmk : (min (k : Int) 1 = 0 ∧ hsep k = [63]) ∨ (min (k : Int) 1 = 1 ∧ hsep k = [38]) := by
       unfold hsep
       by_cases h : k = 0
       ·exact .inl ⟨by omega, if_pos h⟩
       ·exact .inr ⟨by omega, if_neg h⟩
      rcases hmk with ⟨hmin, hsp⟩ | ⟨hmin, hsp⟩
      all_goals
       rw [hsp] at hsz HN
       clear hsp
       go_wp2
       refine wp_region_any (by kernel_rfl) ?_
       try (change wpAny _ _ _ _ _ _ _ (World.drew _))
       first | refine tkU 0 ?_ | refine tkV 0 ?_
       try go_simp
       first | refine tkU 1 ?_ | refine tkV 1 ?_
       try go_simp
       first | refine tkU 2 ?_ | refine tkV 2 ?_
       try go_simp
       first | refine tkU 3 ?_ | refine tkV 3 ?_
       try go_simp
       refine rdyA 4 (fun K hK => ?_)
       have bx := Blk.new wr 85 #[.string N, .string V, .bool h]
       obtain ⟨y0, y1, y2, _, _, _, hzx⟩ := bx.f3
       clear bx
       try go_simp
       refine hK _ _ ?_; clear hK K
       refine rdyA 5 (fun K hK => ?_)
       have hWa := (hWr.below ((Below.refl _ _).alloc (ρ _) (.cells #[.string N, .string V, .bool h] 85))).below ((Below.refl _ _).drew)
       have hBa := (hBr.alloc hBr.size (.cells #[.string N, .string V, .bool h] 85)).drew
       refine step_wV2 (by rfl) rfl Tryz.func86 nmPr bdPr rfl rfl (HPP.out _) ?_; intro w4 hC4
       have hWa := hWa.below hC4
       have hBa := hBa.trans (hC4.mono hBa.size)
       try go_simp
       refine hK _ _ ?_; clear hK K
       first | refine tkU 6 ?_ | refine tkV 6 ?_
       try go_simp
       refine rdyA 7 (fun K hK => ?_)
       refine step_wU2 (v0 := .pointer (some ⟨w1.heap.size, 0, none⟩)) rfl rfl Tryz.func84 nmWsU bdWsU rfl rfl (bld_writeU w1.heap.size w1.heap.size l _ _ hWa (by rw [ByteArray.size_append]; exact Nat.le_trans (Nat.add_le_add_left (Nat.add_le_add_right (show _ ≤ 2 by decide) _) _) (by omega)) hBa.size) ?_
       intro vx w6 hX
       obtain ⟨rfl, hW6, hB6⟩ := hX
       try go_simp
       refine hK _ _ ?_; clear hK K
       refine wpAny_done (by kernel_rfl) ?_ _
       go_wp2
       go_roundw
       case rel => exact ⟨k + 1, _, by omega, by go_num, κ (by rw [HN.out, HL2.out, us_append, HPA.out, List.append_assoc]; refine congrArg (L1 ++ ·) (congrArg (hsT _ ++ ·) (congrArg (· ++ _) ?_)); decide +kernel), hW6, hBa.trans hB6⟩
       case measure => simp [intOf]; omega
     ·have hkG : k = G.length := by omega
      subst hkG
      rw [List.take_of_length_le (ρ _)] at HL2
      go_wp2_with (go_at_call 87; refine (bld_str _ _ l _ hWr hBr.size).mono ?_; rintro e w8 ⟨rfl, hB8⟩)
      go_ret2
      exact ⟨ret_si (p := PU) (by rw [us_bs, HPR.out, HTH.out, HL2.out, HL.out, HHD2.out]), HB1w.out.trans ((hBr.trans hB8).mono HB1w.out.size)⟩
 ·rw [if_pos (hunil.2 hu)] at hhd
  obtain rfl := eq_empty hu
  clear hu hunil
  rw [if_neg hp] at hhd
  clear hpl
  have HHD := κ hhd
  clear hhd
  go_enter Tryz.func38, Tryz.ntmps38
  go_wp2_with (first | (go_at_call 81; (try rw [← HW0.out]); refine (HCK.out _ hM0.out hU1 hU2).mono ?_; rintro e w1 ⟨rfl, hC1⟩; have hB1 := hZ.trans (hC1.mono hZ.size); have hBld := Bld.new (heap_alloc_new w1 (.cells #[.pointer none, .slice none 0 0] 142)) (ρ _); have hBn : Below w1.heap.size w1 (w1.alloc (.cells #[.pointer none, .slice none 0 0] 142)) := (Below.refl _ _).alloc (ρ _) _; obtain ⟨bm1, hBB1, hU11, hU21⟩ := HX.out _ hB1; have HB1 := κ (fun (wx : World) (h : Below w1.heap.size w1 wx) => bm1.call h); obtain ⟨p0, p1, p2, p3, p4, p5⟩ := blk_f6 (HB1.out _ hBn)) | (go_at_call 85; (with_reducible refine (HEU.out _).mono ?_); rintro e we ⟨rfl, hCe⟩; have hBld := hBld.below hCe; have hBn := hBn.trans (hCe.mono hBn.size); obtain ⟨p0, p1, p2, p3, p4, p5⟩ := blk_f6 (HB1.out _ hBn)) | (go_at_call 83; (with_reducible refine (HDG.out _).mono ?_); rintro e we ⟨rfl, hCe⟩; have hBld := hBld.below hCe; have hBn := hBn.trans (hCe.mono hBn.size); obtain ⟨p0, p1, p2, p3, p4, p5⟩ := blk_f6 (HB1.out _ hBn)) | (go_at_call 84; (with_reducible refine (bld_write w1.heap.size w1.heap.size _ (S ++ ⟨#[58]⟩) _ hBld (by simp only [List.length_append, List.length_nil, length_us, ByteArray.size_append]; omega) hBn.size).mono ?_); rintro e wq ⟨rfl, hBld, hBq⟩; have hBn := hBn.trans hBq; obtain ⟨p0, p1, p2, p3, p4, p5⟩ := blk_f6 (HB1.out _ hBn)) | (go_at_call 84; (with_reducible refine (bld_write w1.heap.size w1.heap.size _ (H) _ hBld (by simp only [List.length_append, List.length_nil, length_us, ByteArray.size_append]; omega) hBn.size).mono ?_); rintro e wq ⟨rfl, hBld, hBq⟩; have hBn := hBn.trans hBq; obtain ⟨p0, p1, p2, p3, p4, p5⟩ := blk_f6 (HB1.out _ hBn)))
  obtain ⟨HD, hHD⟩ : ∃ x, x = (([] ++ us (S ++ ⟨#[58]⟩)) ++ us (H)) := ⟨_, rfl⟩
  rw [← hHD] at hBld
  have hHDl : HD.length ≤ 400 := by rw [hHD]; simp only [List.length_append, List.length_nil, length_us, ByteArray.size_append]; omega
  have HHD2 := κ (show HD = HDu by rw [hHD, HHD.out]; simp [us])
  clear hHD
  have HB1w := κ (hBB1 : Below w.heap.size w w1)
  have hBl1 := hBld
  go_loopw [41] (fun i wr => ∃ (k : Nat) (l : List UInt8), k ≤ F.length ∧ i = .int .i64 k ∧ Hid (l = HD ++ psT (F.take k)) ∧ Bld w1.heap.size w1.heap.size l wr ∧ Below w1.heap.size w1 wr) (fun i _ => F.length - (intOf i).toNat)
  case atStart => exact ⟨0, HD, Nat.zero_le _, rfl, κ (by simp [psT]), hBld, hBn⟩
  case round =>
   obtain ⟨k, l, hk, rfl, HL, hWr, hBr⟩ := hrel
   have hBw : Below w.heap.size w wr := HB1w.out.trans (hBr.mono HB1w.out.size)
   by_cases hlt : k < F.length
   ·obtain ⟨b, off, rfl, hbl, hc1⟩ := C1.out (by omega)
    have hpp := hFl.out _ (List.getElem_mem hlt)
    have x0 : wr.cell? ⟨b, off + k * 3, none⟩ = some (sv F[k].name) := by rw [hBw.cell (p := ⟨b, off + k * 3, none⟩) hbl]; exact (hc1 k hlt).1
    have x1 : wr.cell? ⟨b, off + k * 3 + 1, none⟩ = some (sv F[k].value) := by rw [hBw.cell (p := ⟨b, off + k * 3 + 1, none⟩) hbl]; exact (hc1 k hlt).2.1
    have x2 : wr.cell? ⟨b, off + k * 3 + 2, none⟩ = some (.bool F[k].has) := by rw [hBw.cell (p := ⟨b, off + k * 3 + 2, none⟩) hbl]; exact (hc1 k hlt).2.2
    have HPP := κ (fun wx => pair_c F[k] ⟨#[91, 93, 47, 58, 38, 43, 36]⟩ (by omega) (by omega) (by decide) wx)
    rw [show us ⟨#[91, 93, 47, 58, 38, 43, 36]⟩ = kParams from rfl] at HPP
    have hpl2 := pair_le F[k] kParams hpp.1 hpp.2.1
    have hll : l.length ≤ 400 + 401 * 16 := by
     rw [HL.out, List.length_append]
     have := HPT.out k
     rw [List.length_take] at this
     omega
    have HN := κ (psT_take F k hlt)
    unfold pv sv at HPP
    unfold sv at x0 x1
    obtain ⟨PA, hPA⟩ : ∃ x, x = bs (pairS F[k] kParams) := ⟨_, rfl⟩
    have hPAs : PA.size ≤ 400 := by rw [hPA, size_bs]; exact hpl2
    have HPA := κ (show us PA = pairS F[k] kParams by rw [hPA, us_bs])
    rw [← hPA] at HPP
    obtain ⟨N, hN⟩ : ∃ N, N = bs F[k].name := ⟨_, rfl⟩
    obtain ⟨V, hV⟩ : ∃ V, V = bs F[k].value := ⟨_, rfl⟩
    rw [← hN] at x0 HPP
    rw [← hV] at x1 HPP
    obtain ⟨h, hh⟩ : ∃ h, h = F[k].has := ⟨_, rfl⟩
    rw [← hh] at x2 HPP
    have k0 : (0 : Int) ≤ (k : Int) := by omega
    have k1 : (k : Int) < (F.length : Int) := by omega
    have bx := Blk.new wr 85 #[.string N, .string V, .bool h]
    obtain ⟨y0, y1, y2, _, _, _, _⟩ := bx.f3
    have hWa := hWr.below ((Below.refl _ _).alloc (ρ _) (.cells #[.string N, .string V, .bool h] 85))
    have hBa := hBr.alloc hBr.size (.cells #[.string N, .string V, .bool h] 85)
    have hsz : l.length + (⟨#[59]⟩ ++ PA).size ≤ 140737488355328 := by rw [ByteArray.size_append]; show l.length + (1 + PA.size) ≤ _; omega
    clear hc1 hbl hpp hpl2 hPA hN hV hh bx
    go_wp2_with (first | (go_at_call 86; (with_reducible refine (HPP.out _).mono ?_); rintro e w4 ⟨rfl, hC4⟩; have hWa := hWa.below hC4; have hBa := hBa.trans (hC4.mono hBa.size)) | (go_at_call 84; (with_reducible refine (bld_write w1.heap.size w1.heap.size l _ _ hWa hsz hBa.size).mono ?_); rintro e w5 ⟨rfl, hW5, hB5⟩))
    go_roundw
    case rel => exact ⟨k + 1, _, by omega, by go_num, κ (by rw [HN.out, HL.out]; simp [us_append, HPA.out]; rfl), hW5, hBa.trans hB5⟩
    case measure => simp [intOf]; omega
   ·have hkF : k = F.length := by omega
    subst hkF
    rw [List.take_of_length_le (ρ _)] at HL
    obtain ⟨p0, p1, p2, p3, p4, p5⟩ := blk_f6 (HB1.out _ hBr)
    have hll : l.length ≤ 400 + 401 * 16 := by
     rw [HL.out, List.length_append]
     have := HPT.out F.length
     rw [List.take_of_length_le (ρ _)] at this
     omega
    obtain ⟨L1, hL1⟩ : ∃ x, x = l := ⟨_, rfl⟩
    rw [← hL1] at HL hWr hll
    clear hL1 hBl1 hBld hBn
    go_wp2
    go_loopw [53] (fun i wr => ∃ (k : Nat) (l : List UInt8), k ≤ G.length ∧ i = .int .i64 k ∧ Hid (l = L1 ++ hsT (G.take k)) ∧ Bld w1.heap.size w1.heap.size l wr ∧ Below w1.heap.size w1 wr) (fun i _ => G.length - (intOf i).toNat)
    case atStart => exact ⟨0, L1, Nat.zero_le _, rfl, κ (by simp [hsT]), hWr, hBr⟩
    case round =>
     clear hWr hBr hBw p0 p1 p2 p3 p4 p5
     obtain ⟨k, l, hk, rfl, HL2, hWr, hBr⟩ := hrel
     have hBw : Below w.heap.size w wr := HB1w.out.trans (hBr.mono HB1w.out.size)
     by_cases hlt : k < G.length
     ·obtain ⟨b, off, rfl, hbl, hc1⟩ := C2.out (by omega)
      have hpp := hGl.out _ (List.getElem_mem hlt)
      have x0 : wr.cell? ⟨b, off + k * 3, none⟩ = some (sv G[k].name) := by rw [hBw.cell (p := ⟨b, off + k * 3, none⟩) hbl]; exact (hc1 k hlt).1
      have x1 : wr.cell? ⟨b, off + k * 3 + 1, none⟩ = some (sv G[k].value) := by rw [hBw.cell (p := ⟨b, off + k * 3 + 1, none⟩) hbl]; exact (hc1 k hlt).2.1
      have x2 : wr.cell? ⟨b, off + k * 3 + 2, none⟩ = some (.bool G[k].has) := by rw [hBw.cell (p := ⟨b, off + k * 3 + 2, none⟩) hbl]; exact (hc1 k hlt).2.2
      have HPP := κ (fun wx => pair_c G[k] ⟨#[91, 93, 47, 63, 58, 43, 36]⟩ (by omega) (by omega) (by decide) wx)
      rw [show us ⟨#[91, 93, 47, 63, 58, 43, 36]⟩ = kHeaders from rfl] at HPP
      have hpl2 := pair_le G[k] kHeaders hpp.1 hpp.2.1
      have hl2 : l.length ≤ 400 + 401 * 16 + 401 * 16 := by
       rw [HL2.out, List.length_append]
       have := HGT.out k
       rw [List.length_take] at this
       omega
      have HN := κ (hsT_take G k hlt)
      unfold pv sv at HPP
      unfold sv at x0 x1
      obtain ⟨PA, hPA⟩ : ∃ x, x = bs (pairS G[k] kHeaders) := ⟨_, rfl⟩
      have hPAs : PA.size ≤ 400 := by rw [hPA, size_bs]; exact hpl2
      have HPA := κ (show us PA = pairS G[k] kHeaders by rw [hPA, us_bs])
      rw [← hPA] at HPP
      obtain ⟨N, hN⟩ : ∃ N, N = bs G[k].name := ⟨_, rfl⟩
      obtain ⟨V, hV⟩ : ∃ V, V = bs G[k].value := ⟨_, rfl⟩
      rw [← hN] at x0 HPP
      rw [← hV] at x1 HPP
      obtain ⟨h, hh⟩ : ∃ h, h = G[k].has := ⟨_, rfl⟩
      rw [← hh] at x2 HPP
      have k0 : (0 : Int) ≤ (k : Int) := by omega
      have k1 : (k : Int) < (G.length : Int) := by omega
      have hsz : l.length + (bs (hsep k) ++ PA).size ≤ 140737488355328 := by
       rw [ByteArray.size_append, size_bs]
       have : (hsep k).length ≤ 1 := by unfold hsep; split <;> decide
       omega
      have HSR := κ (sepRun k)
      clear hc1 hbl hpp hpl2 hPA hN hV hh
      have hmk : (min (k : Int) 1 = 0 ∧ hsep k = [63]) ∨ (min (k : Int) 1 = 1 ∧ hsep k = [38]) := by
       unfold hsep
       by_cases h : k = 0
       ·exact .inl ⟨by omega, if_pos h⟩
       ·exact .inr ⟨by omega, if_neg h⟩
      rcases hmk with ⟨hmin, hsp⟩ | ⟨hmin, hsp⟩
      all_goals
       rw [hsp] at hsz HN
       clear hsp
       go_wp2
       refine wp_region_any (by kernel_rfl) ?_
       try (change wpAny _ _ _ _ _ _ _ (World.drew _))
       first | refine tkU 0 ?_ | refine tkV 0 ?_
       try go_simp
       first | refine tkU 1 ?_ | refine tkV 1 ?_
       try go_simp
       first | refine tkU 2 ?_ | refine tkV 2 ?_
       try go_simp
       first | refine tkU 3 ?_ | refine tkV 3 ?_
       try go_simp
       refine rdyA 4 (fun K hK => ?_)
       have bx := Blk.new wr 85 #[.string N, .string V, .bool h]
       obtain ⟨y0, y1, y2, _, _, _, hzx⟩ := bx.f3
       clear bx
       try go_simp
       refine hK _ _ ?_; clear hK K
       refine rdyA 5 (fun K hK => ?_)
       have hWa := (hWr.below ((Below.refl _ _).alloc (ρ _) (.cells #[.string N, .string V, .bool h] 85))).below ((Below.refl _ _).drew)
       have hBa := (hBr.alloc hBr.size (.cells #[.string N, .string V, .bool h] 85)).drew
       refine step_wV2 (by rfl) rfl Tryz.func86 nmPr bdPr rfl rfl (HPP.out _) ?_; intro w4 hC4
       have hWa := hWa.below hC4
       have hBa := hBa.trans (hC4.mono hBa.size)
       try go_simp
       refine hK _ _ ?_; clear hK K
       first | refine tkU 6 ?_ | refine tkV 6 ?_
       try go_simp
       refine rdyA 7 (fun K hK => ?_)
       refine step_wU2 (v0 := .pointer (some ⟨w1.heap.size, 0, none⟩)) rfl rfl Tryz.func84 nmWsU bdWsU rfl rfl (bld_writeU w1.heap.size w1.heap.size l _ _ hWa (by rw [ByteArray.size_append]; exact Nat.le_trans (Nat.add_le_add_left (Nat.add_le_add_right (show _ ≤ 2 by decide) _) _) (by omega)) hBa.size) ?_
       intro vx w6 hX
       obtain ⟨rfl, hW6, hB6⟩ := hX
       try go_simp
       refine hK _ _ ?_; clear hK K
       refine wpAny_done (by kernel_rfl) ?_ _
       go_wp2
       go_roundw
       case rel => exact ⟨k + 1, _, by omega, by go_num, κ (by rw [HN.out, HL2.out, us_append, HPA.out, List.append_assoc]; refine congrArg (L1 ++ ·) (congrArg (hsT _ ++ ·) (congrArg (· ++ _) ?_)); decide +kernel), hW6, hBa.trans hB6⟩
       case measure => simp [intOf]; omega
     ·have hkG : k = G.length := by omega
      subst hkG
      rw [List.take_of_length_le (ρ _)] at HL2
      go_wp2_with (go_at_call 87; refine (bld_str _ _ l _ hWr hBr.size).mono ?_; rintro e w8 ⟨rfl, hB8⟩)
      go_ret2
      exact ⟨ret_si (p := PU) (by rw [us_bs, HPR.out, HTH.out, HL2.out, HL.out, HHD2.out]), HB1w.out.trans ((hBr.trans hB8).mono HB1w.out.size)⟩
 ·rw [if_neg (fun h => hu (hunil.1 h))] at hhd
  have pE := ne_empty hu
  have pF := isEmpty_f hu
  clear hu hunil
  rw [if_pos hp] at hhd hpl
  rw [List.length_cons, length_us] at hpl
  have HHD := κ hhd
  clear hhd
  go_enter Tryz.func38, Tryz.ntmps38
  go_wp2_with (first | (go_at_call 81; (try rw [← HW0.out]); refine (HCK.out _ hM0.out hU1 hU2).mono ?_; rintro e w1 ⟨rfl, hC1⟩; have hB1 := hZ.trans (hC1.mono hZ.size); have hBld := Bld.new (heap_alloc_new w1 (.cells #[.pointer none, .slice none 0 0] 142)) (ρ _); have hBn : Below w1.heap.size w1 (w1.alloc (.cells #[.pointer none, .slice none 0 0] 142)) := (Below.refl _ _).alloc (ρ _) _; obtain ⟨bm1, hBB1, hU11, hU21⟩ := HX.out _ hB1; have HB1 := κ (fun (wx : World) (h : Below w1.heap.size w1 wx) => bm1.call h); obtain ⟨p0, p1, p2, p3, p4, p5⟩ := blk_f6 (HB1.out _ hBn)) | (go_at_call 85; (with_reducible refine (HEU.out _).mono ?_); rintro e we ⟨rfl, hCe⟩; have hBld := hBld.below hCe; have hBn := hBn.trans (hCe.mono hBn.size); obtain ⟨p0, p1, p2, p3, p4, p5⟩ := blk_f6 (HB1.out _ hBn)) | (go_at_call 83; (with_reducible refine (HDG.out _).mono ?_); rintro e we ⟨rfl, hCe⟩; have hBld := hBld.below hCe; have hBn := hBn.trans (hCe.mono hBn.size); obtain ⟨p0, p1, p2, p3, p4, p5⟩ := blk_f6 (HB1.out _ hBn)) | (go_at_call 84; (with_reducible refine (bld_write w1.heap.size w1.heap.size _ (S ++ ⟨#[58]⟩) _ hBld (by simp only [List.length_append, List.length_nil, length_us, ByteArray.size_append]; omega) hBn.size).mono ?_); rintro e wq ⟨rfl, hBld, hBq⟩; have hBn := hBn.trans hBq; obtain ⟨p0, p1, p2, p3, p4, p5⟩ := blk_f6 (HB1.out _ hBn)) | (go_at_call 84; (with_reducible refine (bld_write w1.heap.size w1.heap.size _ (EU ++ ⟨#[64]⟩) _ hBld (by simp only [List.length_append, List.length_nil, length_us, ByteArray.size_append]; omega) hBn.size).mono ?_); rintro e wq ⟨rfl, hBld, hBq⟩; have hBn := hBn.trans hBq; obtain ⟨p0, p1, p2, p3, p4, p5⟩ := blk_f6 (HB1.out _ hBn)) | (go_at_call 84; (with_reducible refine (bld_write w1.heap.size w1.heap.size _ (H) _ hBld (by simp only [List.length_append, List.length_nil, length_us, ByteArray.size_append]; omega) hBn.size).mono ?_); rintro e wq ⟨rfl, hBld, hBq⟩; have hBn := hBn.trans hBq; obtain ⟨p0, p1, p2, p3, p4, p5⟩ := blk_f6 (HB1.out _ hBn)) | (go_at_call 84; (with_reducible refine (bld_write w1.heap.size w1.heap.size _ (⟨#[58]⟩ ++ DG) _ hBld (by simp only [List.length_append, List.length_nil, length_us, ByteArray.size_append]; omega) hBn.size).mono ?_); rintro e wq ⟨rfl, hBld, hBq⟩; have hBn := hBn.trans hBq; obtain ⟨p0, p1, p2, p3, p4, p5⟩ := blk_f6 (HB1.out _ hBn)))
  obtain ⟨HD, hHD⟩ : ∃ x, x = (((([] ++ us (S ++ ⟨#[58]⟩)) ++ us (EU ++ ⟨#[64]⟩)) ++ us (H)) ++ us (⟨#[58]⟩ ++ DG)) := ⟨_, rfl⟩
  rw [← hHD] at hBld
  have hHDl : HD.length ≤ 400 := by rw [hHD]; simp only [List.length_append, List.length_nil, length_us, ByteArray.size_append]; omega
  have HHD2 := κ (show HD = HDu by rw [hHD, HHD.out]; simp [us])
  clear hHD
  have HB1w := κ (hBB1 : Below w.heap.size w w1)
  have hBl1 := hBld
  go_loopw [41] (fun i wr => ∃ (k : Nat) (l : List UInt8), k ≤ F.length ∧ i = .int .i64 k ∧ Hid (l = HD ++ psT (F.take k)) ∧ Bld w1.heap.size w1.heap.size l wr ∧ Below w1.heap.size w1 wr) (fun i _ => F.length - (intOf i).toNat)
  case atStart => exact ⟨0, HD, Nat.zero_le _, rfl, κ (by simp [psT]), hBld, hBn⟩
  case round =>
   obtain ⟨k, l, hk, rfl, HL, hWr, hBr⟩ := hrel
   have hBw : Below w.heap.size w wr := HB1w.out.trans (hBr.mono HB1w.out.size)
   by_cases hlt : k < F.length
   ·obtain ⟨b, off, rfl, hbl, hc1⟩ := C1.out (by omega)
    have hpp := hFl.out _ (List.getElem_mem hlt)
    have x0 : wr.cell? ⟨b, off + k * 3, none⟩ = some (sv F[k].name) := by rw [hBw.cell (p := ⟨b, off + k * 3, none⟩) hbl]; exact (hc1 k hlt).1
    have x1 : wr.cell? ⟨b, off + k * 3 + 1, none⟩ = some (sv F[k].value) := by rw [hBw.cell (p := ⟨b, off + k * 3 + 1, none⟩) hbl]; exact (hc1 k hlt).2.1
    have x2 : wr.cell? ⟨b, off + k * 3 + 2, none⟩ = some (.bool F[k].has) := by rw [hBw.cell (p := ⟨b, off + k * 3 + 2, none⟩) hbl]; exact (hc1 k hlt).2.2
    have HPP := κ (fun wx => pair_c F[k] ⟨#[91, 93, 47, 58, 38, 43, 36]⟩ (by omega) (by omega) (by decide) wx)
    rw [show us ⟨#[91, 93, 47, 58, 38, 43, 36]⟩ = kParams from rfl] at HPP
    have hpl2 := pair_le F[k] kParams hpp.1 hpp.2.1
    have hll : l.length ≤ 400 + 401 * 16 := by
     rw [HL.out, List.length_append]
     have := HPT.out k
     rw [List.length_take] at this
     omega
    have HN := κ (psT_take F k hlt)
    unfold pv sv at HPP
    unfold sv at x0 x1
    obtain ⟨PA, hPA⟩ : ∃ x, x = bs (pairS F[k] kParams) := ⟨_, rfl⟩
    have hPAs : PA.size ≤ 400 := by rw [hPA, size_bs]; exact hpl2
    have HPA := κ (show us PA = pairS F[k] kParams by rw [hPA, us_bs])
    rw [← hPA] at HPP
    obtain ⟨N, hN⟩ : ∃ N, N = bs F[k].name := ⟨_, rfl⟩
    obtain ⟨V, hV⟩ : ∃ V, V = bs F[k].value := ⟨_, rfl⟩
    rw [← hN] at x0 HPP
    rw [← hV] at x1 HPP
    obtain ⟨h, hh⟩ : ∃ h, h = F[k].has := ⟨_, rfl⟩
    rw [← hh] at x2 HPP
    have k0 : (0 : Int) ≤ (k : Int) := by omega
    have k1 : (k : Int) < (F.length : Int) := by omega
    have bx := Blk.new wr 85 #[.string N, .string V, .bool h]
    obtain ⟨y0, y1, y2, _, _, _, _⟩ := bx.f3
    have hWa := hWr.below ((Below.refl _ _).alloc (ρ _) (.cells #[.string N, .string V, .bool h] 85))
    have hBa := hBr.alloc hBr.size (.cells #[.string N, .string V, .bool h] 85)
    have hsz : l.length + (⟨#[59]⟩ ++ PA).size ≤ 140737488355328 := by rw [ByteArray.size_append]; show l.length + (1 + PA.size) ≤ _; omega
    clear hc1 hbl hpp hpl2 hPA hN hV hh bx
    go_wp2_with (first | (go_at_call 86; (with_reducible refine (HPP.out _).mono ?_); rintro e w4 ⟨rfl, hC4⟩; have hWa := hWa.below hC4; have hBa := hBa.trans (hC4.mono hBa.size)) | (go_at_call 84; (with_reducible refine (bld_write w1.heap.size w1.heap.size l _ _ hWa hsz hBa.size).mono ?_); rintro e w5 ⟨rfl, hW5, hB5⟩))
    go_roundw
    case rel => exact ⟨k + 1, _, by omega, by go_num, κ (by rw [HN.out, HL.out]; simp [us_append, HPA.out]; rfl), hW5, hBa.trans hB5⟩
    case measure => simp [intOf]; omega
   ·have hkF : k = F.length := by omega
    subst hkF
    rw [List.take_of_length_le (ρ _)] at HL
    obtain ⟨p0, p1, p2, p3, p4, p5⟩ := blk_f6 (HB1.out _ hBr)
    have hll : l.length ≤ 400 + 401 * 16 := by
     rw [HL.out, List.length_append]
     have := HPT.out F.length
     rw [List.take_of_length_le (ρ _)] at this
     omega
    obtain ⟨L1, hL1⟩ : ∃ x, x = l := ⟨_, rfl⟩
    rw [← hL1] at HL hWr hll
    clear hL1 hBl1 hBld hBn
    go_wp2
    go_loopw [53] (fun i wr => ∃ (k : Nat) (l : List UInt8), k ≤ G.length ∧ i = .int .i64 k ∧ Hid (l = L1 ++ hsT (G.take k)) ∧ Bld w1.heap.size w1.heap.size l wr ∧ Below w1.heap.size w1 wr) (fun i _ => G.length - (intOf i).toNat)
    case atStart => exact ⟨0, L1, Nat.zero_le _, rfl, κ (by simp [hsT]), hWr, hBr⟩
    case round =>
     clear hWr hBr hBw p0 p1 p2 p3 p4 p5
     obtain ⟨k, l, hk, rfl, HL2, hWr, hBr⟩ := hrel
     have hBw : Below w.heap.size w wr := HB1w.out.trans (hBr.mono HB1w.out.size)
     by_cases hlt : k < G.length
     ·obtain ⟨b, off, rfl, hbl, hc1⟩ := C2.out (by omega)
      have hpp := hGl.out _ (List.getElem_mem hlt)
      have x0 : wr.cell? ⟨b, off + k * 3, none⟩ = some (sv G[k].name) := by rw [hBw.cell (p := ⟨b, off + k * 3, none⟩) hbl]; exact (hc1 k hlt).1
      have x1 : wr.cell? ⟨b, off + k * 3 + 1, none⟩ = some (sv G[k].value) := by rw [hBw.cell (p := ⟨b, off + k * 3 + 1, none⟩) hbl]; exact (hc1 k hlt).2.1
      have x2 : wr.cell? ⟨b, off + k * 3 + 2, none⟩ = some (.bool G[k].has) := by rw [hBw.cell (p := ⟨b, off + k * 3 + 2, none⟩) hbl]; exact (hc1 k hlt).2.2
      have HPP := κ (fun wx => pair_c G[k] ⟨#[91, 93, 47, 63, 58, 43, 36]⟩ (by omega) (by omega) (by decide) wx)
      rw [show us ⟨#[91, 93, 47, 63, 58, 43, 36]⟩ = kHeaders from rfl] at HPP
      have hpl2 := pair_le G[k] kHeaders hpp.1 hpp.2.1
      have hl2 : l.length ≤ 400 + 401 * 16 + 401 * 16 := by
       rw [HL2.out, List.length_append]
       have := HGT.out k
       rw [List.length_take] at this
       omega
      have HN := κ (hsT_take G k hlt)
      unfold pv sv at HPP
      unfold sv at x0 x1
      obtain ⟨PA, hPA⟩ : ∃ x, x = bs (pairS G[k] kHeaders) := ⟨_, rfl⟩
      have hPAs : PA.size ≤ 400 := by rw [hPA, size_bs]; exact hpl2
      have HPA := κ (show us PA = pairS G[k] kHeaders by rw [hPA, us_bs])
      rw [← hPA] at HPP
      obtain ⟨N, hN⟩ : ∃ N, N = bs G[k].name := ⟨_, rfl⟩
      obtain ⟨V, hV⟩ : ∃ V, V = bs G[k].value := ⟨_, rfl⟩
      rw [← hN] at x0 HPP
      rw [← hV] at x1 HPP
      obtain ⟨h, hh⟩ : ∃ h, h = G[k].has := ⟨_, rfl⟩
      rw [← hh] at x2 HPP
      have k0 : (0 : Int) ≤ (k : Int) := by omega
      have k1 : (k : Int) < (G.length : Int) := by omega
      have hsz : l.length + (bs (hsep k) ++ PA).size ≤ 140737488355328 := by
       rw [ByteArray.size_append, size_bs]
       have : (hsep k).length ≤ 1 := by unfold hsep; split <;> decide
       omega
      have HSR := κ (sepRun k)
      clear hc1 hbl hpp hpl2 hPA hN hV hh
      have hmk : (min (k : Int) 1 = 0 ∧ hsep k = [63]) ∨ (min (k : Int) 1 = 1 ∧ hsep k = [38]) := by
       unfold hsep
       by_cases h : k = 0
       ·exact .inl ⟨by omega, if_pos h⟩
       ·exact .inr ⟨by omega, if_neg h⟩
      rcases hmk with ⟨hmin, hsp⟩ | ⟨hmin, hsp⟩
      all_goals
       rw [hsp] at hsz HN
       clear hsp
       go_wp2
       refine wp_region_any (by kernel_rfl) ?_
       try (change wpAny _ _ _ _ _ _ _ (World.drew _))
       first | refine tkU 0 ?_ | refine tkV 0 ?_
       try go_simp
       first | refine tkU 1 ?_ | refine tkV 1 ?_
       try go_simp
       first | refine tkU 2 ?_ | refine tkV 2 ?_
       try go_simp
       first | refine tkU 3 ?_ | refine tkV 3 ?_
       try go_simp
       refine rdyA 4 (fun K hK => ?_)
       have bx := Blk.new wr 85 #[.string N, .string V, .bool h]
       obtain ⟨y0, y1, y2, _, _, _, hzx⟩ := bx.f3
       clear bx
       try go_simp
       refine hK _ _ ?_; clear hK K
       refine rdyA 5 (fun K hK => ?_)
       have hWa := (hWr.below ((Below.refl _ _).alloc (ρ _) (.cells #[.string N, .string V, .bool h] 85))).below ((Below.refl _ _).drew)
       have hBa := (hBr.alloc hBr.size (.cells #[.string N, .string V, .bool h] 85)).drew
       refine step_wV2 (by rfl) rfl Tryz.func86 nmPr bdPr rfl rfl (HPP.out _) ?_; intro w4 hC4
       have hWa := hWa.below hC4
       have hBa := hBa.trans (hC4.mono hBa.size)
       try go_simp
       refine hK _ _ ?_; clear hK K
       first | refine tkU 6 ?_ | refine tkV 6 ?_
       try go_simp
       refine rdyA 7 (fun K hK => ?_)
       refine step_wU2 (v0 := .pointer (some ⟨w1.heap.size, 0, none⟩)) rfl rfl Tryz.func84 nmWsU bdWsU rfl rfl (bld_writeU w1.heap.size w1.heap.size l _ _ hWa (by rw [ByteArray.size_append]; exact Nat.le_trans (Nat.add_le_add_left (Nat.add_le_add_right (show _ ≤ 2 by decide) _) _) (by omega)) hBa.size) ?_
       intro vx w6 hX
       obtain ⟨rfl, hW6, hB6⟩ := hX
       try go_simp
       refine hK _ _ ?_; clear hK K
       refine wpAny_done (by kernel_rfl) ?_ _
       go_wp2
       go_roundw
       case rel => exact ⟨k + 1, _, by omega, by go_num, κ (by rw [HN.out, HL2.out, us_append, HPA.out, List.append_assoc]; refine congrArg (L1 ++ ·) (congrArg (hsT _ ++ ·) (congrArg (· ++ _) ?_)); decide +kernel), hW6, hBa.trans hB6⟩
       case measure => simp [intOf]; omega
     ·have hkG : k = G.length := by omega
      subst hkG
      rw [List.take_of_length_le (ρ _)] at HL2
      go_wp2_with (go_at_call 87; refine (bld_str _ _ l _ hWr hBr.size).mono ?_; rintro e w8 ⟨rfl, hB8⟩)
      go_ret2
      exact ⟨ret_si (p := PU) (by rw [us_bs, HPR.out, HTH.out, HL2.out, HL.out, HHD2.out]), HB1w.out.trans ((hBr.trans hB8).mono HB1w.out.size)⟩
 ·rw [if_neg (fun h => hu (hunil.1 h))] at hhd
  have pE := ne_empty hu
  have pF := isEmpty_f hu
  clear hu hunil
  rw [if_neg hp] at hhd
  clear hpl
  have HHD := κ hhd
  clear hhd
  go_enter Tryz.func38, Tryz.ntmps38
  go_wp2_with (first | (go_at_call 81; (try rw [← HW0.out]); refine (HCK.out _ hM0.out hU1 hU2).mono ?_; rintro e w1 ⟨rfl, hC1⟩; have hB1 := hZ.trans (hC1.mono hZ.size); have hBld := Bld.new (heap_alloc_new w1 (.cells #[.pointer none, .slice none 0 0] 142)) (ρ _); have hBn : Below w1.heap.size w1 (w1.alloc (.cells #[.pointer none, .slice none 0 0] 142)) := (Below.refl _ _).alloc (ρ _) _; obtain ⟨bm1, hBB1, hU11, hU21⟩ := HX.out _ hB1; have HB1 := κ (fun (wx : World) (h : Below w1.heap.size w1 wx) => bm1.call h); obtain ⟨p0, p1, p2, p3, p4, p5⟩ := blk_f6 (HB1.out _ hBn)) | (go_at_call 85; (with_reducible refine (HEU.out _).mono ?_); rintro e we ⟨rfl, hCe⟩; have hBld := hBld.below hCe; have hBn := hBn.trans (hCe.mono hBn.size); obtain ⟨p0, p1, p2, p3, p4, p5⟩ := blk_f6 (HB1.out _ hBn)) | (go_at_call 83; (with_reducible refine (HDG.out _).mono ?_); rintro e we ⟨rfl, hCe⟩; have hBld := hBld.below hCe; have hBn := hBn.trans (hCe.mono hBn.size); obtain ⟨p0, p1, p2, p3, p4, p5⟩ := blk_f6 (HB1.out _ hBn)) | (go_at_call 84; (with_reducible refine (bld_write w1.heap.size w1.heap.size _ (S ++ ⟨#[58]⟩) _ hBld (by simp only [List.length_append, List.length_nil, length_us, ByteArray.size_append]; omega) hBn.size).mono ?_); rintro e wq ⟨rfl, hBld, hBq⟩; have hBn := hBn.trans hBq; obtain ⟨p0, p1, p2, p3, p4, p5⟩ := blk_f6 (HB1.out _ hBn)) | (go_at_call 84; (with_reducible refine (bld_write w1.heap.size w1.heap.size _ (EU ++ ⟨#[64]⟩) _ hBld (by simp only [List.length_append, List.length_nil, length_us, ByteArray.size_append]; omega) hBn.size).mono ?_); rintro e wq ⟨rfl, hBld, hBq⟩; have hBn := hBn.trans hBq; obtain ⟨p0, p1, p2, p3, p4, p5⟩ := blk_f6 (HB1.out _ hBn)) | (go_at_call 84; (with_reducible refine (bld_write w1.heap.size w1.heap.size _ (H) _ hBld (by simp only [List.length_append, List.length_nil, length_us, ByteArray.size_append]; omega) hBn.size).mono ?_); rintro e wq ⟨rfl, hBld, hBq⟩; have hBn := hBn.trans hBq; obtain ⟨p0, p1, p2, p3, p4, p5⟩ := blk_f6 (HB1.out _ hBn)))
  obtain ⟨HD, hHD⟩ : ∃ x, x = ((([] ++ us (S ++ ⟨#[58]⟩)) ++ us (EU ++ ⟨#[64]⟩)) ++ us (H)) := ⟨_, rfl⟩
  rw [← hHD] at hBld
  have hHDl : HD.length ≤ 400 := by rw [hHD]; simp only [List.length_append, List.length_nil, length_us, ByteArray.size_append]; omega
  have HHD2 := κ (show HD = HDu by rw [hHD, HHD.out]; simp [us])
  clear hHD
  have HB1w := κ (hBB1 : Below w.heap.size w w1)
  have hBl1 := hBld
  go_loopw [41] (fun i wr => ∃ (k : Nat) (l : List UInt8), k ≤ F.length ∧ i = .int .i64 k ∧ Hid (l = HD ++ psT (F.take k)) ∧ Bld w1.heap.size w1.heap.size l wr ∧ Below w1.heap.size w1 wr) (fun i _ => F.length - (intOf i).toNat)
  case atStart => exact ⟨0, HD, Nat.zero_le _, rfl, κ (by simp [psT]), hBld, hBn⟩
  case round =>
   obtain ⟨k, l, hk, rfl, HL, hWr, hBr⟩ := hrel
   have hBw : Below w.heap.size w wr := HB1w.out.trans (hBr.mono HB1w.out.size)
   by_cases hlt : k < F.length
   ·obtain ⟨b, off, rfl, hbl, hc1⟩ := C1.out (by omega)
    have hpp := hFl.out _ (List.getElem_mem hlt)
    have x0 : wr.cell? ⟨b, off + k * 3, none⟩ = some (sv F[k].name) := by rw [hBw.cell (p := ⟨b, off + k * 3, none⟩) hbl]; exact (hc1 k hlt).1
    have x1 : wr.cell? ⟨b, off + k * 3 + 1, none⟩ = some (sv F[k].value) := by rw [hBw.cell (p := ⟨b, off + k * 3 + 1, none⟩) hbl]; exact (hc1 k hlt).2.1
    have x2 : wr.cell? ⟨b, off + k * 3 + 2, none⟩ = some (.bool F[k].has) := by rw [hBw.cell (p := ⟨b, off + k * 3 + 2, none⟩) hbl]; exact (hc1 k hlt).2.2
    have HPP := κ (fun wx => pair_c F[k] ⟨#[91, 93, 47, 58, 38, 43, 36]⟩ (by omega) (by omega) (by decide) wx)
    rw [show us ⟨#[91, 93, 47, 58, 38, 43, 36]⟩ = kParams from rfl] at HPP
    have hpl2 := pair_le F[k] kParams hpp.1 hpp.2.1
    have hll : l.length ≤ 400 + 401 * 16 := by
     rw [HL.out, List.length_append]
     have := HPT.out k
     rw [List.length_take] at this
     omega
    have HN := κ (psT_take F k hlt)
    unfold pv sv at HPP
    unfold sv at x0 x1
    obtain ⟨PA, hPA⟩ : ∃ x, x = bs (pairS F[k] kParams) := ⟨_, rfl⟩
    have hPAs : PA.size ≤ 400 := by rw [hPA, size_bs]; exact hpl2
    have HPA := κ (show us PA = pairS F[k] kParams by rw [hPA, us_bs])
    rw [← hPA] at HPP
    obtain ⟨N, hN⟩ : ∃ N, N = bs F[k].name := ⟨_, rfl⟩
    obtain ⟨V, hV⟩ : ∃ V, V = bs F[k].value := ⟨_, rfl⟩
    rw [← hN] at x0 HPP
    rw [← hV] at x1 HPP
    obtain ⟨h, hh⟩ : ∃ h, h = F[k].has := ⟨_, rfl⟩
    rw [← hh] at x2 HPP
    have k0 : (0 : Int) ≤ (k : Int) := by omega
    have k1 : (k : Int) < (F.length : Int) := by omega
    have bx := Blk.new wr 85 #[.string N, .string V, .bool h]
    obtain ⟨y0, y1, y2, _, _, _, _⟩ := bx.f3
    have hWa := hWr.below ((Below.refl _ _).alloc (ρ _) (.cells #[.string N, .string V, .bool h] 85))
    have hBa := hBr.alloc hBr.size (.cells #[.string N, .string V, .bool h] 85)
    have hsz : l.length + (⟨#[59]⟩ ++ PA).size ≤ 140737488355328 := by rw [ByteArray.size_append]; show l.length + (1 + PA.size) ≤ _; omega
    clear hc1 hbl hpp hpl2 hPA hN hV hh bx
    go_wp2_with (first | (go_at_call 86; (with_reducible refine (HPP.out _).mono ?_); rintro e w4 ⟨rfl, hC4⟩; have hWa := hWa.below hC4; have hBa := hBa.trans (hC4.mono hBa.size)) | (go_at_call 84; (with_reducible refine (bld_write w1.heap.size w1.heap.size l _ _ hWa hsz hBa.size).mono ?_); rintro e w5 ⟨rfl, hW5, hB5⟩))
    go_roundw
    case rel => exact ⟨k + 1, _, by omega, by go_num, κ (by rw [HN.out, HL.out]; simp [us_append, HPA.out]; rfl), hW5, hBa.trans hB5⟩
    case measure => simp [intOf]; omega
   ·have hkF : k = F.length := by omega
    subst hkF
    rw [List.take_of_length_le (ρ _)] at HL
    obtain ⟨p0, p1, p2, p3, p4, p5⟩ := blk_f6 (HB1.out _ hBr)
    have hll : l.length ≤ 400 + 401 * 16 := by
     rw [HL.out, List.length_append]
     have := HPT.out F.length
     rw [List.take_of_length_le (ρ _)] at this
     omega
    obtain ⟨L1, hL1⟩ : ∃ x, x = l := ⟨_, rfl⟩
    rw [← hL1] at HL hWr hll
    clear hL1 hBl1 hBld hBn
    go_wp2
    go_loopw [53] (fun i wr => ∃ (k : Nat) (l : List UInt8), k ≤ G.length ∧ i = .int .i64 k ∧ Hid (l = L1 ++ hsT (G.take k)) ∧ Bld w1.heap.size w1.heap.size l wr ∧ Below w1.heap.size w1 wr) (fun i _ => G.length - (intOf i).toNat)
    case atStart => exact ⟨0, L1, Nat.zero_le _, rfl, κ (by simp [hsT]), hWr, hBr⟩
    case round =>
     clear hWr hBr hBw p0 p1 p2 p3 p4 p5
     obtain ⟨k, l, hk, rfl, HL2, hWr, hBr⟩ := hrel
     have hBw : Below w.heap.size w wr := HB1w.out.trans (hBr.mono HB1w.out.size)
     by_cases hlt : k < G.length
     ·obtain ⟨b, off, rfl, hbl, hc1⟩ := C2.out (by omega)
      have hpp := hGl.out _ (List.getElem_mem hlt)
      have x0 : wr.cell? ⟨b, off + k * 3, none⟩ = some (sv G[k].name) := by rw [hBw.cell (p := ⟨b, off + k * 3, none⟩) hbl]; exact (hc1 k hlt).1
      have x1 : wr.cell? ⟨b, off + k * 3 + 1, none⟩ = some (sv G[k].value) := by rw [hBw.cell (p := ⟨b, off + k * 3 + 1, none⟩) hbl]; exact (hc1 k hlt).2.1
      have x2 : wr.cell? ⟨b, off + k * 3 + 2, none⟩ = some (.bool G[k].has) := by rw [hBw.cell (p := ⟨b, off + k * 3 + 2, none⟩) hbl]; exact (hc1 k hlt).2.2
      have HPP := κ (fun wx => pair_c G[k] ⟨#[91, 93, 47, 63, 58, 43, 36]⟩ (by omega) (by omega) (by decide) wx)
      rw [show us ⟨#[91, 93, 47, 63, 58, 43, 36]⟩ = kHeaders from rfl] at HPP
      have hpl2 := pair_le G[k] kHeaders hpp.1 hpp.2.1
      have hl2 : l.length ≤ 400 + 401 * 16 + 401 * 16 := by
       rw [HL2.out, List.length_append]
       have := HGT.out k
       rw [List.length_take] at this
       omega
      have HN := κ (hsT_take G k hlt)
      unfold pv sv at HPP
      unfold sv at x0 x1
      obtain ⟨PA, hPA⟩ : ∃ x, x = bs (pairS G[k] kHeaders) := ⟨_, rfl⟩
      have hPAs : PA.size ≤ 400 := by rw [hPA, size_bs]; exact hpl2
      have HPA := κ (show us PA = pairS G[k] kHeaders by rw [hPA, us_bs])
      rw [← hPA] at HPP
      obtain ⟨N, hN⟩ : ∃ N, N = bs G[k].name := ⟨_, rfl⟩
      obtain ⟨V, hV⟩ : ∃ V, V = bs G[k].value := ⟨_, rfl⟩
      rw [← hN] at x0 HPP
      rw [← hV] at x1 HPP
      obtain ⟨h, hh⟩ : ∃ h, h = G[k].has := ⟨_, rfl⟩
      rw [← hh] at x2 HPP
      have k0 : (0 : Int) ≤ (k : Int) := by omega
      have k1 : (k : Int) < (G.length : Int) := by omega
      have hsz : l.length + (bs (hsep k) ++ PA).size ≤ 140737488355328 := by
       rw [ByteArray.size_append, size_bs]
       have : (hsep k).length ≤ 1 := by unfold hsep; split <;> decide
       omega
      have HSR := κ (sepRun k)
      clear hc1 hbl hpp hpl2 hPA hN hV hh
      have hmk : (min (k : Int) 1 = 0 ∧ hsep k = [63]) ∨ (min (k : Int) 1 = 1 ∧ hsep k = [38]) := by
       unfold hsep
       by_cases h : k = 0
       ·exact .inl ⟨by omega, if_pos h⟩
       ·exact .inr ⟨by omega, if_neg h⟩
      rcases hmk with ⟨hmin, hsp⟩ | ⟨hmin, hsp⟩
      all_goals
       rw [hsp] at hsz HN
       clear hsp
       go_wp2
       refine wp_region_any (by kernel_rfl) ?_
       try (change wpAny _ _ _ _ _ _ _ (World.drew _))
       first | refine tkU 0 ?_ | refine tkV 0 ?_
       try go_simp
       first | refine tkU 1 ?_ | refine tkV 1 ?_
       try go_simp
       first | refine tkU 2 ?_ | refine tkV 2 ?_
       try go_simp
       first | refine tkU 3 ?_ | refine tkV 3 ?_
       try go_simp
       refine rdyA 4 (fun K hK => ?_)
       have bx := Blk.new wr 85 #[.string N, .string V, .bool h]
       obtain ⟨y0, y1, y2, _, _, _, hzx⟩ := bx.f3
       clear bx
       try go_simp
       refine hK _ _ ?_; clear hK K
       refine rdyA 5 (fun K hK => ?_)
       have hWa := (hWr.below ((Below.refl _ _).alloc (ρ _) (.cells #[.string N, .string V, .bool h] 85))).below ((Below.refl _ _).drew)
       have hBa := (hBr.alloc hBr.size (.cells #[.string N, .string V, .bool h] 85)).drew
       refine step_wV2 (by rfl) rfl Tryz.func86 nmPr bdPr rfl rfl (HPP.out _) ?_; intro w4 hC4
       have hWa := hWa.below hC4
       have hBa := hBa.trans (hC4.mono hBa.size)
       try go_simp
       refine hK _ _ ?_; clear hK K
       first | refine tkU 6 ?_ | refine tkV 6 ?_
       try go_simp
       refine rdyA 7 (fun K hK => ?_)
       refine step_wU2 (v0 := .pointer (some ⟨w1.heap.size, 0, none⟩)) rfl rfl Tryz.func84 nmWsU bdWsU rfl rfl (bld_writeU w1.heap.size w1.heap.size l _ _ hWa (by rw [ByteArray.size_append]; exact Nat.le_trans (Nat.add_le_add_left (Nat.add_le_add_right (show _ ≤ 2 by decide) _) _) (by omega)) hBa.size) ?_
       intro vx w6 hX
       obtain ⟨rfl, hW6, hB6⟩ := hX
       try go_simp
       refine hK _ _ ?_; clear hK K
       refine wpAny_done (by kernel_rfl) ?_ _
       go_wp2
       go_roundw
       case rel => exact ⟨k + 1, _, by omega, by go_num, κ (by rw [HN.out, HL2.out, us_append, HPA.out, List.append_assoc]; refine congrArg (L1 ++ ·) (congrArg (hsT _ ++ ·) (congrArg (· ++ _) ?_)); decide +kernel), hW6, hBa.trans hB6⟩
       case measure => simp [intOf]; omega
     ·have hkG : k = G.length := by omega
      subst hkG
      rw [List.take_of_length_le (ρ _)] at HL2
      go_wp2_with (go_at_call 87; refine (bld_str _ _ l _ hWr hBr.size).mono ?_; rintro e w8 ⟨rfl, hB8⟩)
      go_ret2
      exact ⟨ret_si (p := PU) (by rw [us_bs, HPR.out, HTH.out, HL2.out, HL.out, HHD2.out]), HB1w.out.trans ((hBr.trans hB8).mono HB1w.out.size)⟩
end Go.Proofs.YtipdiddjhimdcaaGreatDoor
