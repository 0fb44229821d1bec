/- Contracts of Go functions, and plain laws. No condition but those told. -/
import Derived.Test.YtipdiddjhimdcaaGreatDoorB01
import Derived.Deep.RegionLaw
import Derived.Maps.OwnOps
import Derived.Maps.Views
set_option linter.unusedSimpArgs false
set_option linter.unusedVariables false
set_option maxRecDepth 100000
namespace Go.Proofs.YtipdiddjhimdcaaGreatDoor
section
open Go.RowKit
theorem text_step (L : List Prm) (k : Nat) (h : k < L.length) (acc : List UInt8) (hp : textGo [] L = (textGo (L.take k) (L.drop k)).map (acc ++ ·)) (hm : mayS (L.take k) L[k] = true) :
  textGo [] L = (textGo (L.take (k + 1)) (L.drop (k + 1))).map ((acc ++ ptext L[k]) ++ ·) := by
 rw [hp, List.drop_eq_getElem_cons h, textGo, if_pos hm, ← List.take_succ_eq_append_getElem h]
 cases textGo (L.take (k + 1)) (L.drop (k + 1)) <;> simp
theorem text_bad (L : List Prm) (k : Nat) (h : k < L.length) (h16 : L.length ≤ 16) (acc : List UInt8) (hp : textGo [] L = (textGo (L.take k) (L.drop k)).map (acc ++ ·)) (hm : mayS (L.take k) L[k] = false) :
  textS L = ([], 34) := by
 unfold textS
 rw [if_neg (by omega), hp, List.drop_eq_getElem_cons h, textGo, if_neg (by rw [hm]; decide)]; rfl
theorem text_end (L : List Prm) (h16 : L.length ≤ 16) (acc : List UInt8) (hp : textGo [] L = (textGo (L.take L.length) (L.drop L.length)).map (acc ++ ·)) : textS L = (acc, 0) := by
 unfold textS
 rw [if_neg (by omega), hp, List.drop_length, textGo]; simp [okOr]
theorem quote_le (l : List UInt8) : (quote l).1.length ≤ 2 * l.length + 2 := by
 unfold quote
 split
 ·simp
 ·have : ∀ l : List UInt8, (l.flatMap qbyte).length ≤ 2 * l.length := by
   intro l
   induction l with
   | nil => simp
   | cons c r ih => rw [List.flatMap_cons, List.length_append, List.length_cons]; have := qbyte_len c; omega
  have := this l
  rw [List.length_cons, List.length_append]; simp only [List.length_cons, List.length_nil]; omega
theorem ptext_le (p : Prm) (h1 : p.name.length ≤ 64) (h2 : p.value.length ≤ 64) : (ptext p).length ≤ 200 := by
 unfold ptext
 have := quote_le p.value
 split
 ·split <;> simp <;> omega
 ·simp; omega
section
variable {P : Program} {ops : Array Oper} {o : Oper} {a : Act} {Q : Exit → Act → World → Prop}
theorem step_callB2 {K : Act → World → Prop} {w : World} {E : Prop} {f : FuncId} {x y : Operand} {ts : Array TypeId} {v0 v1 v : Value}
  (hg : o.guard = none) (ho : o.op = .call { callee := .value (.func f), args := #[x, y], argTypes := ts }) {fn : Func} (hf : P.funcs[f]? = some fn) (hnm : (fn.name == "runtime.NumGoroutine") = false) (hbd : fn.body.isNone = false)
  (hx : a.eval x = v0) (hy : a.eval y = v1) (hC : Calls P f #[v0, v1] w fun e w' => e = .returned v ∧ Below w.heap.size w w') (hK : ∀ w', Below w.heap.size w w' → K (a.put o.dst v) w') :
  if Region.wanted o (yielded ops a.tmps) = true then Oper.wp P o a w K Q else E := by
 refine step_of hg ?_
 unfold Oper.wp
 have h1 : fn.name ≠ "runtime.NumGoroutine" := by simpa using hnm
 have h2 : fn.body ≠ none := by intro e; rw [e] at hbd; cases hbd
 have hrun : (execOp a.eval o).run P w = .ok (.enter f #[v0, v1]) w := by
  subst hx hy
  simp [execOp, ho, resolve, Deferred.ofValue, invoke, callFunc, Act.eval, hf, h1, h2, Result.andThen]
 rw [hrun]
 refine hC.mono ?_
 rintro e w' ⟨rfl, hB⟩
 exact hK w' hB
end
theorem nmBad : (Tryz.f115.name == "runtime.NumGoroutine") = false := by kernel_rfl
theorem bdBad : Tryz.f115.body.isNone = false := by kernel_rfl
set_option maxHeartbeats 3200000 in
theorem text_c (v : Value) (L : List Prm) (w : World) (hm : Ml w) (hv : RPrms w v L) (hbd : ∀ p ∈ L, p.name.length ≤ 4294967280 ∧ p.value.length ≤ 4294967280) :
  Calls Tryz.prog 82 #[v] w fun e w' => e = .returned (.tuple #[.string (bs (textS L).1), .int .i64 (textS L).2]) ∧ Below w.heap.size w w' := by
 have HV0 := hv
 obtain ⟨ao, cap, rfl, hm1, c1⟩ := hv.form
 have C1 := κ c1
 have HBD := κ hbd
 have HM := κ hm
 have HVV := κ HV0
 have hcap := κ (fun h => (RPrms.len HV0 h).2)
 clear c1 hv HV0 hbd hm
 unfold maxLen at hm1
 by_cases h16 : 16 < L.length
 ·have HN := κ (show textS L = ([], 4) by unfold textS; rw [if_pos h16])
  go_enter Tryz.func82, Tryz.ntmps82
  go_wp2
  go_ret2
  exact ⟨by rw [HN.out]; rfl, Below.refl _ _⟩
 have HFB := κ (fun k h acc => text_bad L k h (by omega) acc)
 have HFE := κ (fun acc => text_end L (by omega) acc)
 go_enter Tryz.func82, Tryz.ntmps82
 go_wp2
 go_loopw [4, 13] (fun t i wr => ∃ (k : Nat) (acc : ByteArray), k ≤ L.length ∧ i = .int .i64 k ∧ t = .string acc ∧ acc.size ≤ k * 200 ∧ textGo [] L = (textGo (L.take k) (L.drop k)).map (us acc ++ ·) ∧ Below w.heap.size w wr) (fun _ i _ => L.length - (intOf i).toNat)
 case atStart => exact ⟨0, ⟨#[]⟩, Nat.zero_le _, rfl, rfl, ρ _, by rw [List.take_zero, List.drop_zero, show us ⟨#[]⟩ = [] from rfl]; cases textGo [] L <;> simp, Below.refl _ _⟩
 case round =>
  obtain ⟨k, acc, hk, rfl, rfl, hacc, hp, hB⟩ := hrel
  have HP := κ hp; clear hp
  by_cases hlt : k < L.length
  ·obtain ⟨b, off, rfl, hb1, hc1⟩ := C1.out (by omega)
   have x0 : wr.cell? ⟨b, off + k * 3, none⟩ = some (.string (bs L[k].name)) := by
    rw [hB.cell (p := ⟨b, off + k * 3, none⟩) hb1]; exact (hc1 k hlt).1
   have x1 : wr.cell? ⟨b, off + k * 3 + 1, none⟩ = some (.string (bs L[k].value)) := by
    rw [hB.cell (p := ⟨b, off + k * 3 + 1, none⟩) hb1]; exact (hc1 k hlt).2.1
   have x2 : wr.cell? ⟨b, off + k * 3 + 2, none⟩ = some (.bool L[k].has) := by
    rw [hB.cell (p := ⟨b, off + k * 3 + 2, none⟩) hb1]; exact (hc1 k hlt).2.2
   have k0 : (0 : Int) ≤ (k : Int) := by omega
   have k1 : (k : Int) < (L.length : Int) := by omega
   have hcp := hcap.out (by omega)
   have k2 : (k : Int) ≤ (cap : Int) := by omega
   clear hc1
   have hpb := HBD.out _ (List.getElem_mem hlt)
   have HVk := κ ((HVV.out.take (k := k) hk).below hB (ρ _))
   have HC1 := κ (fun wx hx => bad_c (.slice (some ⟨b, off, none⟩) k cap) (L.take k) L[k] hpb.1 hpb.2 wx hx (fun p hp => by have := (HBD.out p (List.mem_of_mem_take hp)).1; omega))
   unfold pv sv at HC1
   have HWD := κ (fun wx hx => word_c (bs L[k].value) (by rw [size_bs]; exact hpb.2) wx hx)
   have HQT := κ (fun wx => quote_c (bs L[k].value) (by rw [size_bs]; omega) wx)
   rw [us_bs] at HWD HQT
   have hlen := fun (hh0 : mayS (L.take k) L[k] = true) => mayS_len hh0
   have hpl := ptext_le L[k]
   have hqv := quote_le L[k].value
   have hsn : (bs L[k].name).size = L[k].name.length := size_bs _
   have hsv : (bs L[k].value).size = L[k].value.length := size_bs _
   have hsq : (bs (quote L[k].value).1).size = (quote L[k].value).1.length := size_bs _
   have hpt : ptext L[k] = 59 :: (us (bs L[k].name) ++ (if L[k].has = true then 61 :: (if wordS L[k].value = true then us (bs L[k].value) else us (bs (quote L[k].value).1)) else [])) := by simp only [us_bs]; rfl
   have HTB := κ (HFB.out k hlt (us acc) HP.out)
   have HTS := κ (text_step L k hlt (us acc) HP.out)
   obtain ⟨my, hmy⟩ : ∃ my, my = mayS (L.take k) L[k] := ⟨_, rfl⟩
   rw [← hmy] at HC1 hlen HTB HTS
   clear hmy
   obtain ⟨pt, hptx⟩ : ∃ pt, pt = ptext L[k] := ⟨_, rfl⟩
   rw [← hptx] at hpt HTS hpl
   clear hptx
   obtain ⟨wd, hwd⟩ : ∃ wd, wd = wordS L[k].value := ⟨_, rfl⟩
   rw [← hwd] at HWD hpt
   clear hwd
   obtain ⟨qp, hqp⟩ : ∃ qp, qp = quote L[k].value := ⟨_, rfl⟩
   rw [← hqp] at HQT hpt hqv hsq
   clear hqp
   obtain ⟨qs, qe⟩ := qp
   dsimp only at HQT hpt hqv hsq
   obtain ⟨hh, hhx⟩ : ∃ hh, hh = L[k].has := ⟨_, rfl⟩
   rw [← hhx] at HC1 hpt x2
   clear hhx
   obtain ⟨N, hN⟩ : ∃ N, N = bs L[k].name := ⟨_, rfl⟩
   rw [← hN] at HC1 hpt x0 hsn
   clear hN
   obtain ⟨V, hV⟩ : ∃ V, V = bs L[k].value := ⟨_, rfl⟩
   rw [← hV] at HC1 hpt x1 HWD HQT hsv
   clear hV
   obtain ⟨QS, hQS⟩ : ∃ QS, QS = bs qs := ⟨_, rfl⟩
   rw [← hQS] at HQT hpt hsq
   clear hQS
   have HPT := κ hpt
   have HPL := κ hpl
   have HLN := κ hlen
   clear hpt hpl hlen hpb
   have h59 : (⟨#[59]⟩ : ByteArray).size = 1 := rfl
   have h61 : (⟨#[61]⟩ : ByteArray).size = 1 := rfl
   cases my
   ·have HN := κ (HTB.out rfl)
    go_wp2
    go_region_law (refine step_callB2 rfl rfl Tryz.func115 nmBad bdBad rfl rfl (HC1.out _ (HVk.out.below ((Below.refl _ _).alloc (ρ _) _).drew (ρ _))) ?_; intro w2 hC)
    obtain ⟨r0, r1, r2, hz2, hB2⟩ := box3 ((Below.refl _ _).drew.trans hC)
    go_wp2
    go_ret2
    exact ⟨by rw [HN.out]; rfl, hB.trans (hB2.mono hB.size)⟩
   ·obtain ⟨hl1, hl2⟩ := HLN.out rfl
    have hl3 := HPL.out hl1 hl2
    have HS := κ (HTS.out rfl)
    have HM2 := κ (HM.out.below hB)
    have hks : k ≤ 16 := by omega
    cases hh
    case false =>
     go_wp2
     go_region_law (refine step_callB2 rfl rfl Tryz.func115 nmBad bdBad rfl rfl (HC1.out _ (HVk.out.below ((Below.refl _ _).alloc (ρ _) _).drew (ρ _))) ?_; intro w2 hC)
     obtain ⟨r0, r1, r2, hz2, hB2⟩ := box3 ((Below.refl _ _).drew.trans hC)
     clear hC
     go_wp2
     go_roundw
     case rel => exact ⟨k + 1, acc ++ (⟨#[59]⟩ ++ N), by omega, by go_num, rfl, by simp only [ByteArray.size_append]; omega, by rw [us_append, us_append]; rw [HS.out, HPT.out]; simp [us], hB.trans (hB2.mono hB.size)⟩
     case measure => simp [intOf]; omega
    case true =>
     cases wd
     case true =>
      go_wp2
      go_region_law (refine step_callB2 rfl rfl Tryz.func115 nmBad bdBad rfl rfl (HC1.out _ (HVk.out.below ((Below.refl _ _).alloc (ρ _) _).drew (ρ _))) ?_; intro w2 hC)
      obtain ⟨r0, r1, r2, hz2, hB2⟩ := box3 ((Below.refl _ _).drew.trans hC)
      clear hC
      go_wp2_with (go_at_call 114; refine (HWD.out _ (HM2.out.below hB2)).mono ?_; rintro e w3 ⟨rfl, hC3⟩; have hB3 := hB2.trans (hC3.mono hB2.size); clear hC3)
      go_roundw
      case rel => exact ⟨k + 1, (acc ++ (⟨#[59]⟩ ++ N)) ++ (⟨#[61]⟩ ++ V), by omega, by go_num, rfl, by simp only [ByteArray.size_append]; omega, by rw [us_append, us_append, us_append, us_append]; rw [HS.out, HPT.out]; simp [us], hB.trans (hB3.mono hB.size)⟩
      case measure => simp [intOf]; omega
     case false =>
      go_wp2
      go_region_law (refine step_callB2 rfl rfl Tryz.func115 nmBad bdBad rfl rfl (HC1.out _ (HVk.out.below ((Below.refl _ _).alloc (ρ _) _).drew (ρ _))) ?_; intro w2 hC)
      obtain ⟨r0, r1, r2, hz2, hB2⟩ := box3 ((Below.refl _ _).drew.trans hC)
      clear hC
      go_wp2_with (first | (go_at_call 114; refine (HWD.out _ (HM2.out.below hB2)).mono ?_; rintro e w3 ⟨rfl, hC3⟩; have hB3 := hB2.trans (hC3.mono hB2.size); clear hC3) | (go_at_call 80; refine (HQT.out _).mono ?_; rintro e w4 ⟨rfl, hC4⟩; have hB4 := hB3.trans (hC4.mono hB3.size); clear hC4))
      go_roundw
      case rel => exact ⟨k + 1, (acc ++ (⟨#[59]⟩ ++ N)) ++ (⟨#[61]⟩ ++ QS), by omega, by go_num, rfl, by simp only [ByteArray.size_append]; omega, by rw [us_append, us_append, us_append, us_append]; rw [HS.out, HPT.out]; simp [us], hB.trans (hB4.mono hB.size)⟩
      case measure => simp [intOf]; omega
  ·obtain rfl : k = L.length := by omega
   have HE := κ (HFE.out (us acc) HP.out)
   go_wp2
   go_ret2
   exact ⟨by rw [HE.out]; simp, hB⟩
end
section
open Go.RowKit
theorem nmMay : (Tryz.f167.name == "runtime.NumGoroutine") = false := by kernel_rfl
theorem bdMay : Tryz.f167.body.isNone = false := by kernel_rfl
set_option maxHeartbeats 3200000 in
theorem textR_c (v : Value) (L : List Prm) (w : World) (hv : RPrms w v L) (hbd : ∀ p ∈ L, p.name.length ≤ 4294967280 ∧ p.value.length ≤ 4294967280) :
  Calls Tryz.prog 120 #[v] w fun e w' => e = .returned (.tuple #[.string (bs (textS L).1), .int .i64 (textS L).2]) ∧ Below w.heap.size w w' := by
 have HV0 := hv
 obtain ⟨ao, cap, rfl, hm1, c1⟩ := hv.form
 have C1 := κ c1
 have HBD := κ hbd
 have HVV := κ HV0
 have hcap := κ (fun h => (RPrms.len HV0 h).2)
 clear c1 hv HV0 hbd
 unfold maxLen at hm1
 by_cases h16 : 16 < L.length
 ·have HN := κ (show textS L = ([], 4) by unfold textS; rw [if_pos h16])
  go_enter Tryz.func120, Tryz.ntmps120
  go_wp2
  go_ret2
  exact ⟨by rw [HN.out]; rfl, Below.refl _ _⟩
 have HFB := κ (fun k h acc => text_bad L k h (by omega) acc)
 have HFE := κ (fun acc => text_end L (by omega) acc)
 go_enter Tryz.func120, Tryz.ntmps120
 go_wp2
 go_loopw [4, 5] (fun t i wr => ∃ (k : Nat) (acc : ByteArray), k ≤ L.length ∧ i = .int .i64 k ∧ t = .string acc ∧ acc.size ≤ k * 200 ∧ textGo [] L = (textGo (L.take k) (L.drop k)).map (us acc ++ ·) ∧ Below w.heap.size w wr) (fun _ i _ => L.length - (intOf i).toNat)
 case atStart => exact ⟨0, ⟨#[]⟩, Nat.zero_le _, rfl, rfl, ρ _, by rw [List.take_zero, List.drop_zero, show us ⟨#[]⟩ = [] from rfl]; cases textGo [] L <;> simp, Below.refl _ _⟩
 case round =>
  obtain ⟨k, acc, hk, rfl, rfl, hacc, hp, hB⟩ := hrel
  have HP := κ hp; clear hp
  by_cases hlt : k < L.length
  ·obtain ⟨b, off, rfl, hb1, hc1⟩ := C1.out (by omega)
   have X := κ (fun (w2 : World) (hB2 : Below w.heap.size w w2) => show w2.cell? ⟨b, off + k * 3, none⟩ = some (.string (bs L[k].name)) ∧ w2.cell? ⟨b, off + k * 3 + 1, none⟩ = some (.string (bs L[k].value)) ∧ w2.cell? ⟨b, off + k * 3 + 2, none⟩ = some (.bool L[k].has) from
    ⟨(hB2.cell (p := ⟨b, off + k * 3, none⟩) hb1).trans (hc1 k hlt).1, (hB2.cell (p := ⟨b, off + k * 3 + 1, none⟩) hb1).trans (hc1 k hlt).2.1, (hB2.cell (p := ⟨b, off + k * 3 + 2, none⟩) hb1).trans (hc1 k hlt).2.2⟩)
   have k0 : (0 : Int) ≤ (k : Int) := by omega
   have k1 : (k : Int) < (L.length : Int) := by omega
   have hcp := hcap.out (by omega)
   have k2 : (k : Int) ≤ (cap : Int) := by omega
   clear hc1
   have hpb := HBD.out _ (List.getElem_mem hlt)
   have HVk := κ ((HVV.out.take (k := k) hk).below hB (ρ _))
   have HC1 := κ (fun wx hx => mayR_c (.slice (some ⟨b, off, none⟩) k cap) (L.take k) L[k] hpb.1 hpb.2 wx hx (fun p hp => by have := (HBD.out p (List.mem_of_mem_take hp)).1; omega))
   unfold pv sv at HC1
   have HWD := κ (fun wx => wordR_c (bs L[k].value) (by rw [size_bs]; exact hpb.2) wx)
   have HQT := κ (fun wx => quoteR_c (bs L[k].value) (by rw [size_bs]; omega) wx)
   rw [us_bs] at HWD HQT
   have hlen := fun (hh0 : mayS (L.take k) L[k] = true) => mayS_len hh0
   have hpl := ptext_le L[k]
   have hqv := quote_le L[k].value
   have hsn : (bs L[k].name).size = L[k].name.length := size_bs _
   have hsv : (bs L[k].value).size = L[k].value.length := size_bs _
   have hsq : (bs (quote L[k].value).1).size = (quote L[k].value).1.length := size_bs _
   have hpt : ptext L[k] = 59 :: (us (bs L[k].name) ++ (if L[k].has = true then 61 :: (if wordS L[k].value = true then us (bs L[k].value) else us (bs (quote L[k].value).1)) else [])) := by simp only [us_bs]; rfl
   have HTB := κ (HFB.out k hlt (us acc) HP.out)
   have HTS := κ (text_step L k hlt (us acc) HP.out)
   obtain ⟨my, hmy⟩ : ∃ my, my = mayS (L.take k) L[k] := ⟨_, rfl⟩
   rw [← hmy] at HC1 hlen HTB HTS
   clear hmy
   obtain ⟨pt, hptx⟩ : ∃ pt, pt = ptext L[k] := ⟨_, rfl⟩
   rw [← hptx] at hpt HTS hpl
   clear hptx
   obtain ⟨wd, hwd⟩ : ∃ wd, wd = wordS L[k].value := ⟨_, rfl⟩
   rw [← hwd] at HWD hpt
   clear hwd
   obtain ⟨qp, hqp⟩ : ∃ qp, qp = quote L[k].value := ⟨_, rfl⟩
   rw [← hqp] at HQT hpt hqv hsq
   clear hqp
   obtain ⟨qs, qe⟩ := qp
   dsimp only at HQT hpt hqv hsq
   obtain ⟨hh, hhx⟩ : ∃ hh, hh = L[k].has := ⟨_, rfl⟩
   rw [← hhx] at HC1 hpt X
   clear hhx
   obtain ⟨N, hN⟩ : ∃ N, N = bs L[k].name := ⟨_, rfl⟩
   rw [← hN] at HC1 hpt X hsn
   clear hN
   obtain ⟨V, hV⟩ : ∃ V, V = bs L[k].value := ⟨_, rfl⟩
   rw [← hV] at HC1 hpt X HWD HQT hsv
   clear hV
   obtain ⟨QS, hQS⟩ : ∃ QS, QS = bs qs := ⟨_, rfl⟩
   rw [← hQS] at HQT hpt hsq
   clear hQS
   have HPT := κ hpt
   have HPL := κ hpl
   have HLN := κ hlen
   clear hpt hpl hlen hpb
   have h59 : (⟨#[59]⟩ : ByteArray).size = 1 := rfl
   have h61 : (⟨#[61]⟩ : ByteArray).size = 1 := rfl
   obtain ⟨x0, x1, x2⟩ := X.out wr hB
   cases my
   ·have HN := κ (HTB.out rfl)
    go_wp2
    go_region_law (refine step_callB2 rfl rfl Tryz.func167 nmMay bdMay rfl rfl (HC1.out _ (HVk.out.below (Drn.below ⟨1, rfl⟩) (ρ _))) ?_; intro w2 hC)
    have hB2 := hB.drew.trans (hC.mono hB.drew.size)
    clear hC
    obtain ⟨x0', x1', x2'⟩ := X.out w2 hB2
    go_wp2
    go_ret2
    exact ⟨by rw [HN.out]; rfl, hB2⟩
   ·obtain ⟨hl1, hl2⟩ := HLN.out rfl
    have hl3 := HPL.out hl1 hl2
    have HS := κ (HTS.out rfl)
    have hks : k ≤ 16 := by omega
    cases hh
    case false =>
     go_wp2
     go_region_law (refine step_callB2 rfl rfl Tryz.func167 nmMay bdMay rfl rfl (HC1.out _ (HVk.out.below (Drn.below ⟨1, rfl⟩) (ρ _))) ?_; intro w2 hC)
     have hB2 := hB.drew.trans (hC.mono hB.drew.size)
     clear hC
     obtain ⟨x0', x1', x2'⟩ := X.out w2 hB2
     go_wp2
     go_roundw
     case rel => exact ⟨k + 1, (acc ++ ⟨#[59]⟩) ++ N, by omega, by go_num, rfl, by simp only [ByteArray.size_append]; omega, by rw [us_append, us_append]; rw [HS.out, HPT.out]; simp [us], hB2⟩
     case measure => simp [intOf]; omega
    case true =>
     cases wd
     case true =>
      go_wp2
      go_region_law (refine step_callB2 rfl rfl Tryz.func167 nmMay bdMay rfl rfl (HC1.out _ (HVk.out.below (Drn.below ⟨1, rfl⟩) (ρ _))) ?_; intro w2 hC)
      have hB2 := hB.drew.trans (hC.mono hB.drew.size)
      clear hC
      obtain ⟨x0', x1', x2'⟩ := X.out w2 hB2
      go_wp2_with (go_at_call 168; refine (HWD.out _).mono ?_; rintro e w3 ⟨rfl, hC3⟩; have hB3 := hB2.trans (hC3.mono hB2.size); obtain ⟨y0, y1, y2⟩ := X.out w3 hB3; clear hC3)
      go_roundw
      case rel => exact ⟨k + 1, (((acc ++ ⟨#[59]⟩) ++ N) ++ ⟨#[61]⟩) ++ V, by omega, by go_num, rfl, by simp only [ByteArray.size_append]; omega, by rw [us_append, us_append, us_append, us_append]; rw [HS.out, HPT.out]; simp [us], hB3⟩
      case measure => simp [intOf]; omega
     case false =>
      go_wp2
      go_region_law (refine step_callB2 rfl rfl Tryz.func167 nmMay bdMay rfl rfl (HC1.out _ (HVk.out.below (Drn.below ⟨1, rfl⟩) (ρ _))) ?_; intro w2 hC)
      have hB2 := hB.drew.trans (hC.mono hB.drew.size)
      clear hC
      obtain ⟨x0', x1', x2'⟩ := X.out w2 hB2
      go_wp2_with (first | (go_at_call 168; refine (HWD.out _).mono ?_; rintro e w3 ⟨rfl, hC3⟩; have hB3 := hB2.trans (hC3.mono hB2.size); obtain ⟨y0, y1, y2⟩ := X.out w3 hB3; clear hC3) | (go_at_call 118; refine (HQT.out _).mono ?_; rintro e w4 ⟨rfl, hC4⟩; have hB4 := hB3.trans (hC4.mono hB3.size); clear hC4))
      go_roundw
      case rel => exact ⟨k + 1, (((acc ++ ⟨#[59]⟩) ++ N) ++ ⟨#[61]⟩) ++ QS, by omega, by go_num, rfl, by simp only [ByteArray.size_append]; omega, by rw [us_append, us_append, us_append, us_append]; rw [HS.out, HPT.out]; simp [us], hB4⟩
      case measure => simp [intOf]; omega
  ·obtain rfl : k = L.length := by omega
   have HE := κ (HFE.out (us acc) HP.out)
   go_wp2
   go_ret2
   exact ⟨by rw [HE.out]; simp, hB⟩
end
end Go.Proofs.YtipdiddjhimdcaaGreatDoor
namespace Go.Proofs.YtipdiddjhimdcaaGreatDoor
open Go.RowKit Go.Maps
open Go.WideMaps (keyOf_string_mk)
end Go.Proofs.YtipdiddjhimdcaaGreatDoor
