/-
  Packed: XTxt, XNum, XVpl, XVia, XUrs, XUrl, XUrc.
-/
import Derived.Test.YtipdiddjhimdcaaGreatDoorB05
import Derived.Deep.RegionLaw
import Derived.Test.YtipdiddjhimdcaaGreatDoorB03
import Derived.Test.YtipdiddjhimdcaaGreatDoorB04
import Derived.Maps.OwnOps
import Derived.Maps.Views
namespace Go.Proofs.YtipdiddjhimdcaaGreatDoor

section
open Go.RowKit

/-- the text of a parameter -/
def ptext (p : Prm) : List UInt8 := 59 :: (p.name ++ (if p.has = true then 61 :: (if wordS p.value = true then p.value else (quote p.value).1) else []))
def textGo : List Prm → List Prm → Option (List UInt8)
  | _, [] => some []
  | done, p :: r => if mayS done p = true then (textGo (done ++ [p]) r).map (ptext p ++ ·) else none
/-- the text of some parameters -/
def textS (L : List Prm) : List UInt8 × Int := if 16 < L.length then ([], 4) else okOr 34 (textGo [] L)
theorem text_step (L : List Prm) (k : Nat) (h : k < L.length) (acc : List UInt8) (hp : textGo [] L = (textGo (L.take k) (L.drop k)).map (acc ++ ·)) (hm : mayS (L.take k) L[k] = true) :
    textGo [] L = (textGo (L.take (k + 1)) (L.drop (k + 1))).map ((acc ++ ptext L[k]) ++ ·) := by
  rw [hp, List.drop_eq_getElem_cons h, textGo, if_pos hm, ← List.take_succ_eq_append_getElem h]
  cases textGo (L.take (k + 1)) (L.drop (k + 1)) <;> simp
theorem text_bad (L : List Prm) (k : Nat) (h : k < L.length) (h16 : L.length ≤ 16) (acc : List UInt8) (hp : textGo [] L = (textGo (L.take k) (L.drop k)).map (acc ++ ·)) (hm : mayS (L.take k) L[k] = false) :
    textS L = ([], 34) := by
  unfold textS
  rw [if_neg (by omega), hp, List.drop_eq_getElem_cons h, textGo, if_neg (by rw [hm]; decide)]; rfl
theorem text_end (L : List Prm) (h16 : L.length ≤ 16) (acc : List UInt8) (hp : textGo [] L = (textGo (L.take L.length) (L.drop L.length)).map (acc ++ ·)) : textS L = (acc, 0) := by
  unfold textS
  rw [if_neg (by omega), hp, List.drop_length, textGo]; simp [okOr]
theorem quote_le (l : List UInt8) : (quote l).1.length ≤ 2 * l.length + 2 := by
  unfold quote
  split
  · simp
  · have : ∀ l : List UInt8, (l.flatMap qbyte).length ≤ 2 * l.length := by
      intro l
      induction l with
      | nil => simp
      | cons c r ih => rw [List.flatMap_cons, List.length_append, List.length_cons]; have := qbyte_len c; omega
    have := this l
    rw [List.length_cons, List.length_append]; simp only [List.length_cons, List.length_nil]; omega
theorem ptext_le (p : Prm) (h1 : p.name.length ≤ 64) (h2 : p.value.length ≤ 64) : (ptext p).length ≤ 200 := by
  unfold ptext
  have := quote_le p.value
  split
  · split <;> simp <;> omega
  · simp; omega
theorem RPrms.take {w : World} {ao : Option Addr} {n cap k : Nat} {L : List Prm} (h : RPrms w (.slice ao n cap) L) (hk : k ≤ L.length) : RPrms w (.slice ao k cap) (L.take k) := by
  have hlen : (L.take k).length = k := by rw [List.length_take]; omega
  rcases h with ⟨_, rfl⟩ | ⟨b, off, cap', h1, h2, h2', h3, h4⟩
  · have : k = 0 := by simpa using hk
    subst this
    exact .inl ⟨⟨_, _, rfl⟩, rfl⟩
  · injection h1 with e1 e2 e3
    subst e1 e3
    refine .inr ⟨b, off, cap, by rw [hlen], by rw [hlen]; omega, h2', h3, fun j hj => ?_⟩
    have hj' : j < L.length := by rw [hlen] at hj; omega
    have := h4 j hj'
    rw [List.getElem_take]; exact this
theorem RPrms.len {w : World} {ao : Option Addr} {n cap : Nat} {L : List Prm} (h : RPrms w (.slice ao n cap) L) (h0 : 0 < L.length) : n = L.length ∧ L.length ≤ cap := by
  rcases h with ⟨_, rfl⟩ | ⟨b, off, cap', h1, h2, _⟩
  · simp at h0
  · injection h1 with _ e2 e3
    subst e3
    exact ⟨e2, h2⟩

section
variable {P : Program} {ops : Array Oper} {o : Oper} {a : Act} {Q : Exit → Act → World → Prop}
/-- a call of two arguments that makes memory, as one operation of a region that draws its order -/
theorem step_callB2 {K : Act → World → Prop} {w : World} {E : Prop} {f : FuncId} {x y : Operand} {ts : Array TypeId} {v0 v1 v : Value}
    (hg : o.guard = none) (ho : o.op = .call { callee := .value (.func f), args := #[x, y], argTypes := ts }) {fn : Func} (hf : P.funcs[f]? = some fn) (hnm : (fn.name == "runtime.NumGoroutine") = false) (hbd : fn.body.isNone = false)
    (hx : a.eval x = v0) (hy : a.eval y = v1) (hC : Calls P f #[v0, v1] w fun e w' => e = .returned v ∧ Below w.heap.size w w') (hK : ∀ w', Below w.heap.size w w' → K (a.put o.dst v) w') :
    if Region.wanted o (yielded ops a.tmps) = true then Oper.wp P o a w K Q else E := by
  refine step_of hg ?_
  unfold Oper.wp
  have h1 : fn.name ≠ "runtime.NumGoroutine" := by simpa using hnm
  have h2 : fn.body ≠ none := by intro e; rw [e] at hbd; cases hbd
  have hrun : (execOp a.eval o).run P w = .ok (.enter f #[v0, v1]) w := by
    subst hx hy
    simp [execOp, ho, resolve, Deferred.ofValue, invoke, callFunc, Act.eval, hf, h1, h2, Result.andThen]
  rw [hrun]
  refine hC.mono ?_
  rintro e w' ⟨rfl, hB⟩
  exact hK w' hB
end
theorem nmBad : (Tryz.f115.name == "runtime.NumGoroutine") = false := by kernel_rfl
theorem bdBad : Tryz.f115.body.isNone = false := by kernel_rfl

set_option maxRecDepth 100000 in
set_option maxHeartbeats 3200000 in
theorem text_c (v : Value) (L : List Prm) (w : World) (hm : Ml w) (hv : RPrms w v L) (hbd : ∀ p ∈ L, p.name.length ≤ 4294967280 ∧ p.value.length ≤ 4294967280) :
    Calls Tryz.prog 82 #[v] w fun e w' => e = .returned (.tuple #[.string (bs (textS L).1), .int .i64 (textS L).2]) ∧ Below w.heap.size w w' := by
  have HV0 := hv
  obtain ⟨ao, cap, rfl, hm1, c1⟩ := hv.form
  have C1 := Lib.hid c1
  have HBD := Lib.hid hbd
  have HM := Lib.hid hm
  have HVV := Lib.hid HV0
  have hcap := Lib.hid (fun h => (RPrms.len HV0 h).2)
  clear c1 hv HV0 hbd hm
  unfold maxLen at hm1
  by_cases h16 : 16 < L.length
  · have HN := Lib.hid (show textS L = ([], 4) by unfold textS; rw [if_pos h16])
    go_enter Tryz.func82, Tryz.ntmps82
    go_wp2
    go_ret2
    exact ⟨by rw [HN.out]; rfl, Below.refl _ _⟩
  have HFB := Lib.hid (fun k h acc => text_bad L k h (by omega) acc)
  have HFE := Lib.hid (fun acc => text_end L (by omega) acc)
  go_enter Tryz.func82, Tryz.ntmps82
  go_wp2
  go_loopw [4, 13] (fun t i wr => ∃ (k : Nat) (acc : ByteArray), k ≤ L.length ∧ i = .int .i64 k ∧ t = .string acc ∧ acc.size ≤ k * 200 ∧ textGo [] L = (textGo (L.take k) (L.drop k)).map (us acc ++ ·) ∧ Below w.heap.size w wr) (fun _ i _ => L.length - (intOf i).toNat)
  case atStart => exact ⟨0, ⟨#[]⟩, Nat.zero_le _, rfl, rfl, Nat.le_refl _, by rw [List.take_zero, List.drop_zero, show us ⟨#[]⟩ = [] from rfl]; cases textGo [] L <;> simp, Below.refl _ _⟩
  case round =>
    obtain ⟨k, acc, hk, rfl, rfl, hacc, hp, hB⟩ := hrel
    have HP := Lib.hid hp; clear hp
    by_cases hlt : k < L.length
    · obtain ⟨b, off, rfl, hb1, hc1⟩ := C1.out (by omega)
      have x0 : wr.cell? ⟨b, off + k * 3, none⟩ = some (.string (bs L[k].name)) := by
        rw [hB.cell (p := ⟨b, off + k * 3, none⟩) hb1]; exact (hc1 k hlt).1
      have x1 : wr.cell? ⟨b, off + k * 3 + 1, none⟩ = some (.string (bs L[k].value)) := by
        rw [hB.cell (p := ⟨b, off + k * 3 + 1, none⟩) hb1]; exact (hc1 k hlt).2.1
      have x2 : wr.cell? ⟨b, off + k * 3 + 2, none⟩ = some (.bool L[k].has) := by
        rw [hB.cell (p := ⟨b, off + k * 3 + 2, none⟩) hb1]; exact (hc1 k hlt).2.2
      have k0 : (0 : Int) ≤ (k : Int) := by omega
      have k1 : (k : Int) < (L.length : Int) := by omega
      have hcp := hcap.out (by omega)
      have k2 : (k : Int) ≤ (cap : Int) := by omega
      clear hc1
      have hpb := HBD.out _ (List.getElem_mem hlt)
      have HVk := Lib.hid ((HVV.out.take (k := k) hk).below hB (Nat.le_refl _))
      have HC1 := Lib.hid (fun wx hx => bad_c (.slice (some ⟨b, off, none⟩) k cap) (L.take k) L[k] hpb.1 hpb.2 wx hx (fun p hp => by have := (HBD.out p (List.mem_of_mem_take hp)).1; omega))
      unfold pv sv at HC1
      have HWD := Lib.hid (fun wx hx => word_c (bs L[k].value) (by rw [size_bs]; exact hpb.2) wx hx)
      have HQT := Lib.hid (fun wx => quote_c (bs L[k].value) (by rw [size_bs]; omega) wx)
      rw [us_bs] at HWD HQT
      have hlen := fun (hh0 : mayS (L.take k) L[k] = true) => mayS_len hh0
      have hpl := ptext_le L[k]
      have hqv := quote_le L[k].value
      have hsn : (bs L[k].name).size = L[k].name.length := size_bs _
      have hsv : (bs L[k].value).size = L[k].value.length := size_bs _
      have hsq : (bs (quote L[k].value).1).size = (quote L[k].value).1.length := size_bs _
      have hpt : ptext L[k] = 59 :: (us (bs L[k].name) ++ (if L[k].has = true then 61 :: (if wordS L[k].value = true then us (bs L[k].value) else us (bs (quote L[k].value).1)) else [])) := by simp only [us_bs]; rfl
      have HTB := Lib.hid (HFB.out k hlt (us acc) HP.out)
      have HTS := Lib.hid (text_step L k hlt (us acc) HP.out)
      obtain ⟨my, hmy⟩ : ∃ my, my = mayS (L.take k) L[k] := ⟨_, rfl⟩
      rw [← hmy] at HC1 hlen HTB HTS
      clear hmy
      obtain ⟨pt, hptx⟩ : ∃ pt, pt = ptext L[k] := ⟨_, rfl⟩
      rw [← hptx] at hpt HTS hpl
      clear hptx
      obtain ⟨wd, hwd⟩ : ∃ wd, wd = wordS L[k].value := ⟨_, rfl⟩
      rw [← hwd] at HWD hpt
      clear hwd
      obtain ⟨qp, hqp⟩ : ∃ qp, qp = quote L[k].value := ⟨_, rfl⟩
      rw [← hqp] at HQT hpt hqv hsq
      clear hqp
      obtain ⟨qs, qe⟩ := qp
      dsimp only at HQT hpt hqv hsq
      obtain ⟨hh, hhx⟩ : ∃ hh, hh = L[k].has := ⟨_, rfl⟩
      rw [← hhx] at HC1 hpt x2
      clear hhx
      obtain ⟨N, hN⟩ : ∃ N, N = bs L[k].name := ⟨_, rfl⟩
      rw [← hN] at HC1 hpt x0 hsn
      clear hN
      obtain ⟨V, hV⟩ : ∃ V, V = bs L[k].value := ⟨_, rfl⟩
      rw [← hV] at HC1 hpt x1 HWD HQT hsv
      clear hV
      obtain ⟨QS, hQS⟩ : ∃ QS, QS = bs qs := ⟨_, rfl⟩
      rw [← hQS] at HQT hpt hsq
      clear hQS
      have HPT := Lib.hid hpt
      have HPL := Lib.hid hpl
      have HLN := Lib.hid hlen
      clear hpt hpl hlen hpb
      have h59 : (⟨#[59]⟩ : ByteArray).size = 1 := rfl
      have h61 : (⟨#[61]⟩ : ByteArray).size = 1 := rfl
      cases my
      · have HN := Lib.hid (HTB.out rfl)
        go_wp2
        go_region_law (refine step_callB2 rfl rfl Tryz.func115 nmBad bdBad rfl rfl (HC1.out _ (HVk.out.below ((Below.refl _ _).alloc (Nat.le_refl _) _).drew (Nat.le_refl _))) ?_; intro w2 hC)
        obtain ⟨r0, r1, r2, hz2, hB2⟩ := box3 ((Below.refl _ _).drew.trans hC)
        go_wp2
        go_ret2
        exact ⟨by rw [HN.out]; rfl, hB.trans (hB2.mono hB.size)⟩
      · obtain ⟨hl1, hl2⟩ := HLN.out rfl
        have hl3 := HPL.out hl1 hl2
        have HS := Lib.hid (HTS.out rfl)
        have HM2 := Lib.hid (HM.out.below hB)
        have hks : k ≤ 16 := by omega
        cases hh
        case false =>
          go_wp2
          go_region_law (refine step_callB2 rfl rfl Tryz.func115 nmBad bdBad rfl rfl (HC1.out _ (HVk.out.below ((Below.refl _ _).alloc (Nat.le_refl _) _).drew (Nat.le_refl _))) ?_; intro w2 hC)
          obtain ⟨r0, r1, r2, hz2, hB2⟩ := box3 ((Below.refl _ _).drew.trans hC)
          clear hC
          go_wp2
          go_roundw
          case rel => exact ⟨k + 1, acc ++ (⟨#[59]⟩ ++ N), by omega, by go_num, rfl, by simp only [ByteArray.size_append]; omega, by rw [us_append, us_append]; rw [HS.out, HPT.out]; simp [us], hB.trans (hB2.mono hB.size)⟩
          case measure => simp [intOf]; omega
        case true =>
          cases wd
          case true =>
            go_wp2
            go_region_law (refine step_callB2 rfl rfl Tryz.func115 nmBad bdBad rfl rfl (HC1.out _ (HVk.out.below ((Below.refl _ _).alloc (Nat.le_refl _) _).drew (Nat.le_refl _))) ?_; intro w2 hC)
            obtain ⟨r0, r1, r2, hz2, hB2⟩ := box3 ((Below.refl _ _).drew.trans hC)
            clear hC
            go_wp2_with (go_at_call 114; refine (HWD.out _ (HM2.out.below hB2)).mono ?_; rintro e w3 ⟨rfl, hC3⟩; have hB3 := hB2.trans (hC3.mono hB2.size); clear hC3)
            go_roundw
            case rel => exact ⟨k + 1, (acc ++ (⟨#[59]⟩ ++ N)) ++ (⟨#[61]⟩ ++ V), by omega, by go_num, rfl, by simp only [ByteArray.size_append]; omega, by rw [us_append, us_append, us_append, us_append]; rw [HS.out, HPT.out]; simp [us], hB.trans (hB3.mono hB.size)⟩
            case measure => simp [intOf]; omega
          case false =>
            go_wp2
            go_region_law (refine step_callB2 rfl rfl Tryz.func115 nmBad bdBad rfl rfl (HC1.out _ (HVk.out.below ((Below.refl _ _).alloc (Nat.le_refl _) _).drew (Nat.le_refl _))) ?_; intro w2 hC)
            obtain ⟨r0, r1, r2, hz2, hB2⟩ := box3 ((Below.refl _ _).drew.trans hC)
            clear hC
            go_wp2_with (first | (go_at_call 114; refine (HWD.out _ (HM2.out.below hB2)).mono ?_; rintro e w3 ⟨rfl, hC3⟩; have hB3 := hB2.trans (hC3.mono hB2.size); clear hC3) | (go_at_call 80; refine (HQT.out _).mono ?_; rintro e w4 ⟨rfl, hC4⟩; have hB4 := hB3.trans (hC4.mono hB3.size); clear hC4))
            go_roundw
            case rel => exact ⟨k + 1, (acc ++ (⟨#[59]⟩ ++ N)) ++ (⟨#[61]⟩ ++ QS), by omega, by go_num, rfl, by simp only [ByteArray.size_append]; omega, by rw [us_append, us_append, us_append, us_append]; rw [HS.out, HPT.out]; simp [us], hB.trans (hB4.mono hB.size)⟩
            case measure => simp [intOf]; omega
    · obtain rfl : k = L.length := by omega
      have HE := Lib.hid (HFE.out (us acc) HP.out)
      go_wp2
      go_ret2
      exact ⟨by rw [HE.out]; simp, hB⟩
end

section
open Go.RowKit

theorem nmMay : (Tryz.f167.name == "runtime.NumGoroutine") = false := by kernel_rfl
theorem bdMay : Tryz.f167.body.isNone = false := by kernel_rfl

set_option maxRecDepth 100000 in
set_option maxHeartbeats 3200000 in
theorem textR_c (v : Value) (L : List Prm) (w : World) (hv : RPrms w v L) (hbd : ∀ p ∈ L, p.name.length ≤ 4294967280 ∧ p.value.length ≤ 4294967280) :
    Calls Tryz.prog 120 #[v] w fun e w' => e = .returned (.tuple #[.string (bs (textS L).1), .int .i64 (textS L).2]) ∧ Below w.heap.size w w' := by
  have HV0 := hv
  obtain ⟨ao, cap, rfl, hm1, c1⟩ := hv.form
  have C1 := Lib.hid c1
  have HBD := Lib.hid hbd
  have HVV := Lib.hid HV0
  have hcap := Lib.hid (fun h => (RPrms.len HV0 h).2)
  clear c1 hv HV0 hbd
  unfold maxLen at hm1
  by_cases h16 : 16 < L.length
  · have HN := Lib.hid (show textS L = ([], 4) by unfold textS; rw [if_pos h16])
    go_enter Tryz.func120, Tryz.ntmps120
    go_wp2
    go_ret2
    exact ⟨by rw [HN.out]; rfl, Below.refl _ _⟩
  have HFB := Lib.hid (fun k h acc => text_bad L k h (by omega) acc)
  have HFE := Lib.hid (fun acc => text_end L (by omega) acc)
  go_enter Tryz.func120, Tryz.ntmps120
  go_wp2
  go_loopw [4, 5] (fun t i wr => ∃ (k : Nat) (acc : ByteArray), k ≤ L.length ∧ i = .int .i64 k ∧ t = .string acc ∧ acc.size ≤ k * 200 ∧ textGo [] L = (textGo (L.take k) (L.drop k)).map (us acc ++ ·) ∧ Below w.heap.size w wr) (fun _ i _ => L.length - (intOf i).toNat)
  case atStart => exact ⟨0, ⟨#[]⟩, Nat.zero_le _, rfl, rfl, Nat.le_refl _, by rw [List.take_zero, List.drop_zero, show us ⟨#[]⟩ = [] from rfl]; cases textGo [] L <;> simp, Below.refl _ _⟩
  case round =>
    obtain ⟨k, acc, hk, rfl, rfl, hacc, hp, hB⟩ := hrel
    have HP := Lib.hid hp; clear hp
    by_cases hlt : k < L.length
    · obtain ⟨b, off, rfl, hb1, hc1⟩ := C1.out (by omega)
      have X := Lib.hid (fun (w2 : World) (hB2 : Below w.heap.size w w2) => show w2.cell? ⟨b, off + k * 3, none⟩ = some (.string (bs L[k].name)) ∧ w2.cell? ⟨b, off + k * 3 + 1, none⟩ = some (.string (bs L[k].value)) ∧ w2.cell? ⟨b, off + k * 3 + 2, none⟩ = some (.bool L[k].has) from
        ⟨(hB2.cell (p := ⟨b, off + k * 3, none⟩) hb1).trans (hc1 k hlt).1, (hB2.cell (p := ⟨b, off + k * 3 + 1, none⟩) hb1).trans (hc1 k hlt).2.1, (hB2.cell (p := ⟨b, off + k * 3 + 2, none⟩) hb1).trans (hc1 k hlt).2.2⟩)
      have k0 : (0 : Int) ≤ (k : Int) := by omega
      have k1 : (k : Int) < (L.length : Int) := by omega
      have hcp := hcap.out (by omega)
      have k2 : (k : Int) ≤ (cap : Int) := by omega
      clear hc1
      have hpb := HBD.out _ (List.getElem_mem hlt)
      have HVk := Lib.hid ((HVV.out.take (k := k) hk).below hB (Nat.le_refl _))
      have HC1 := Lib.hid (fun wx hx => mayR_c (.slice (some ⟨b, off, none⟩) k cap) (L.take k) L[k] hpb.1 hpb.2 wx hx (fun p hp => by have := (HBD.out p (List.mem_of_mem_take hp)).1; omega))
      unfold pv sv at HC1
      have HWD := Lib.hid (fun wx => wordR_c (bs L[k].value) (by rw [size_bs]; exact hpb.2) wx)
      have HQT := Lib.hid (fun wx => quoteR_c (bs L[k].value) (by rw [size_bs]; omega) wx)
      rw [us_bs] at HWD HQT
      have hlen := fun (hh0 : mayS (L.take k) L[k] = true) => mayS_len hh0
      have hpl := ptext_le L[k]
      have hqv := quote_le L[k].value
      have hsn : (bs L[k].name).size = L[k].name.length := size_bs _
      have hsv : (bs L[k].value).size = L[k].value.length := size_bs _
      have hsq : (bs (quote L[k].value).1).size = (quote L[k].value).1.length := size_bs _
      have hpt : ptext L[k] = 59 :: (us (bs L[k].name) ++ (if L[k].has = true then 61 :: (if wordS L[k].value = true then us (bs L[k].value) else us (bs (quote L[k].value).1)) else [])) := by simp only [us_bs]; rfl
      have HTB := Lib.hid (HFB.out k hlt (us acc) HP.out)
      have HTS := Lib.hid (text_step L k hlt (us acc) HP.out)
      obtain ⟨my, hmy⟩ : ∃ my, my = mayS (L.take k) L[k] := ⟨_, rfl⟩
      rw [← hmy] at HC1 hlen HTB HTS
      clear hmy
      obtain ⟨pt, hptx⟩ : ∃ pt, pt = ptext L[k] := ⟨_, rfl⟩
      rw [← hptx] at hpt HTS hpl
      clear hptx
      obtain ⟨wd, hwd⟩ : ∃ wd, wd = wordS L[k].value := ⟨_, rfl⟩
      rw [← hwd] at HWD hpt
      clear hwd
      obtain ⟨qp, hqp⟩ : ∃ qp, qp = quote L[k].value := ⟨_, rfl⟩
      rw [← hqp] at HQT hpt hqv hsq
      clear hqp
      obtain ⟨qs, qe⟩ := qp
      dsimp only at HQT hpt hqv hsq
      obtain ⟨hh, hhx⟩ : ∃ hh, hh = L[k].has := ⟨_, rfl⟩
      rw [← hhx] at HC1 hpt X
      clear hhx
      obtain ⟨N, hN⟩ : ∃ N, N = bs L[k].name := ⟨_, rfl⟩
      rw [← hN] at HC1 hpt X hsn
      clear hN
      obtain ⟨V, hV⟩ : ∃ V, V = bs L[k].value := ⟨_, rfl⟩
      rw [← hV] at HC1 hpt X HWD HQT hsv
      clear hV
      obtain ⟨QS, hQS⟩ : ∃ QS, QS = bs qs := ⟨_, rfl⟩
      rw [← hQS] at HQT hpt hsq
      clear hQS
      have HPT := Lib.hid hpt
      have HPL := Lib.hid hpl
      have HLN := Lib.hid hlen
      clear hpt hpl hlen hpb
      have h59 : (⟨#[59]⟩ : ByteArray).size = 1 := rfl
      have h61 : (⟨#[61]⟩ : ByteArray).size = 1 := rfl
      obtain ⟨x0, x1, x2⟩ := X.out wr hB
      cases my
      · have HN := Lib.hid (HTB.out rfl)
        go_wp2
        go_region_law (refine step_callB2 rfl rfl Tryz.func167 nmMay bdMay rfl rfl (HC1.out _ (HVk.out.below (Drn.below ⟨1, rfl⟩) (Nat.le_refl _))) ?_; intro w2 hC)
        have hB2 := hB.drew.trans (hC.mono hB.drew.size)
        clear hC
        obtain ⟨x0', x1', x2'⟩ := X.out w2 hB2
        go_wp2
        go_ret2
        exact ⟨by rw [HN.out]; rfl, hB2⟩
      · obtain ⟨hl1, hl2⟩ := HLN.out rfl
        have hl3 := HPL.out hl1 hl2
        have HS := Lib.hid (HTS.out rfl)
        have hks : k ≤ 16 := by omega
        cases hh
        case false =>
          go_wp2
          go_region_law (refine step_callB2 rfl rfl Tryz.func167 nmMay bdMay rfl rfl (HC1.out _ (HVk.out.below (Drn.below ⟨1, rfl⟩) (Nat.le_refl _))) ?_; intro w2 hC)
          have hB2 := hB.drew.trans (hC.mono hB.drew.size)
          clear hC
          obtain ⟨x0', x1', x2'⟩ := X.out w2 hB2
          go_wp2
          go_roundw
          case rel => exact ⟨k + 1, (acc ++ ⟨#[59]⟩) ++ N, by omega, by go_num, rfl, by simp only [ByteArray.size_append]; omega, by rw [us_append, us_append]; rw [HS.out, HPT.out]; simp [us], hB2⟩
          case measure => simp [intOf]; omega
        case true =>
          cases wd
          case true =>
            go_wp2
            go_region_law (refine step_callB2 rfl rfl Tryz.func167 nmMay bdMay rfl rfl (HC1.out _ (HVk.out.below (Drn.below ⟨1, rfl⟩) (Nat.le_refl _))) ?_; intro w2 hC)
            have hB2 := hB.drew.trans (hC.mono hB.drew.size)
            clear hC
            obtain ⟨x0', x1', x2'⟩ := X.out w2 hB2
            go_wp2_with (go_at_call 168; refine (HWD.out _).mono ?_; rintro e w3 ⟨rfl, hC3⟩; have hB3 := hB2.trans (hC3.mono hB2.size); obtain ⟨y0, y1, y2⟩ := X.out w3 hB3; clear hC3)
            go_roundw
            case rel => exact ⟨k + 1, (((acc ++ ⟨#[59]⟩) ++ N) ++ ⟨#[61]⟩) ++ V, by omega, by go_num, rfl, by simp only [ByteArray.size_append]; omega, by rw [us_append, us_append, us_append, us_append]; rw [HS.out, HPT.out]; simp [us], hB3⟩
            case measure => simp [intOf]; omega
          case false =>
            go_wp2
            go_region_law (refine step_callB2 rfl rfl Tryz.func167 nmMay bdMay rfl rfl (HC1.out _ (HVk.out.below (Drn.below ⟨1, rfl⟩) (Nat.le_refl _))) ?_; intro w2 hC)
            have hB2 := hB.drew.trans (hC.mono hB.drew.size)
            clear hC
            obtain ⟨x0', x1', x2'⟩ := X.out w2 hB2
            go_wp2_with (first | (go_at_call 168; refine (HWD.out _).mono ?_; rintro e w3 ⟨rfl, hC3⟩; have hB3 := hB2.trans (hC3.mono hB2.size); obtain ⟨y0, y1, y2⟩ := X.out w3 hB3; clear hC3) | (go_at_call 118; refine (HQT.out _).mono ?_; rintro e w4 ⟨rfl, hC4⟩; have hB4 := hB3.trans (hC4.mono hB3.size); clear hC4))
            go_roundw
            case rel => exact ⟨k + 1, (((acc ++ ⟨#[59]⟩) ++ N) ++ ⟨#[61]⟩) ++ QS, by omega, by go_num, rfl, by simp only [ByteArray.size_append]; omega, by rw [us_append, us_append, us_append, us_append]; rw [HS.out, HPT.out]; simp [us], hB4⟩
            case measure => simp [intOf]; omega
    · obtain rfl : k = L.length := by omega
      have HE := Lib.hid (HFE.out (us acc) HP.out)
      go_wp2
      go_ret2
      exact ⟨by rw [HE.out]; simp, hB⟩
end

end Go.Proofs.YtipdiddjhimdcaaGreatDoor

namespace Go.Proofs.YtipdiddjhimdcaaGreatDoor

def isDig (c : UInt8) : Bool := decide (48 ≤ c.toNat) && decide (c.toNat ≤ 57)
theorem isDig_iff (c : UInt8) : isDig c = true ↔ 48 ≤ c.toNat ∧ c.toNat ≤ 57 := by simp [isDig]
theorem testc_dig (c : UInt8) : testc 1 c = isDig c :=
  all_bytes (fun c => testc 1 c = isDig c) (by decide +kernel) c
theorem allc_dig (l : List UInt8) : allc 1 l = l.all isDig := by
  unfold allc
  rw [show testc 1 = isDig from funext testc_dig]
/-- the number that digits tell, behind some -/
def valF : List UInt8 → Int → Int
  | [], n => n
  | c :: r, n => valF r (10 * n + ((c.toNat : Int) - 48))
theorem valF_ge : ∀ (l : List UInt8) (n : Int), l.all isDig = true → 0 ≤ n → n ≤ valF l n
  | [], n, _, _ => Int.le_refl _
  | c :: r, n, h, h0 => by
    rw [List.all_cons, Bool.and_eq_true, isDig_iff] at h
    have := valF_ge r (10 * n + ((c.toNat : Int) - 48)) h.2 (by omega)
    rw [valF]; omega
theorem numGo_val (most : Int) : ∀ (l : List UInt8) (n : Int), l.all isDig = true → 0 ≤ n → n ≤ most → numGo most l n = if valF l n ≤ most then (valF l n, 0) else (0, 9)
  | [], n, _, _, hn => by rw [numGo, valF, if_pos hn]
  | c :: r, n, h, h0, hn => by
    rw [List.all_cons, Bool.and_eq_true, isDig_iff] at h
    rw [numGo, valF]
    by_cases hm : 10 * n + ((c.toNat : Int) - 48) ≤ most
    · rw [if_neg (by omega)]
      exact numGo_val most r _ h.2 (by omega) hm
    · rw [if_pos (by omega)]
      have := valF_ge r (10 * n + ((c.toNat : Int) - 48)) h.2 (by omega)
      rw [if_neg (by omega)]
theorem number_val (most : Int) (h0 : 0 ≤ most) (l : List UInt8) (hl : l ≠ []) (h : l.all isDig = true) : number l most = if valF l 0 ≤ most then (valF l 0, 0) else (0, 9) := by
  unfold number
  rw [if_neg, numGo_val most l 0 h (Int.le_refl _) h0]
  rintro (h' | h')
  · exact hl h'
  · rw [allc_dig, h] at h'; cases h'
end Go.Proofs.YtipdiddjhimdcaaGreatDoor

namespace Go.Proofs.YtipdiddjhimdcaaGreatDoor

section
open Go.RowKit
theorem mem_glue (sep : List UInt8) : ∀ (L : List (List UInt8)) (p : List UInt8), p ∈ L → p.length ≤ (glue sep L).length
  | [], p, h => by cases h
  | [x], p, h => by rw [List.mem_singleton.1 h]; exact Nat.le_refl _
  | x :: y :: r, p, h => by
    rw [glue]
    rcases List.mem_cons.1 h with rfl | h
    · simp
    · have := mem_glue sep (y :: r) p h
      simp; omega
theorem parts_bd (c : UInt8) (l p : List UInt8) (h : p ∈ parts l c) : p.length ≤ l.length := by
  have := mem_glue [c] (parts l c) p h
  rwa [glue_parts] at this
theorem parts_ne (c : UInt8) (l : List UInt8) : parts l c ≠ [] := partsGo_ne c l false false []
/-- a slice behind its first element -/
theorem RStrs.tailA {w : World} {b off cap : Nat} {x : List UInt8} {L : List (List UInt8)} (h : RStrs w (.slice (some ⟨b, off, none⟩) (x :: L).length cap) (x :: L)) (hc : cap = 1) : RStrs w (.slice (some ⟨b, off, none⟩) L.length 0) L := by
  rcases h.cases with ⟨⟨_, _, h1⟩, _⟩ | ⟨b', off', cap', h1, h2, h2', h3, h4⟩
  · injection h1 with _ h1 _; simp at h1
  · injection h1 with e1 e2 e3
    injection e1 with e1
    injection e1 with eb eo
    subst eb eo e3 hc
    rw [List.length_cons] at h2
    have hL : L = [] := List.eq_nil_of_length_eq_zero (by omega)
    subst hL
    exact .inr ⟨b, off, 0, rfl, Nat.zero_le _, Nat.zero_le _, h3, fun j u hj => by simp at hj⟩
theorem RStrs.tailB {w : World} {b off cap : Nat} {x : List UInt8} {L : List (List UInt8)} (h : RStrs w (.slice (some ⟨b, off, none⟩) (x :: L).length cap) (x :: L)) : RStrs w (.slice (some ⟨b, off + 1, none⟩) L.length (cap - 1)) L := by
  rcases h.cases with ⟨⟨_, _, h1⟩, _⟩ | ⟨b', off', cap', h1, h2, h2', h3, h4⟩
  · injection h1 with _ h1 _; simp at h1
  · injection h1 with e1 e2 e3
    injection e1 with e1
    injection e1 with eb eo
    subst eb eo e3
    rw [List.length_cons] at h2
    refine .inr ⟨b, off + 1, cap - 1, rfl, by omega, by omega, h3, fun j u hj => ?_⟩
    have hj' : j < L.length := by have := (List.getElem?_eq_some_iff.1 hj).1; simpa using this
    have := h4 (j + 1) (by simpa using hj')
    rw [show off + 1 + j = off + (j + 1) from by omega, this]
    rw [List.getElem?_map, List.getElem?_eq_getElem hj'] at hj
    simpa [sv] using hj

end

/-- what is read may be written -/
theorem fields_may : ∀ (Ps : List (List UInt8)) (done F : List Prm), fieldsGo done Ps = some F → ∃ L, F = done ++ L ∧ L.length = Ps.length ∧ (textGo done L).isSome = true
  | [], done, F, h => by rw [fieldsGo] at h; injection h with h; exact ⟨[], by rw [← h]; simp, rfl, rfl⟩
  | x :: r, done, F, h => by
    rw [fieldsGo] at h
    cases hf : field done x with
    | none => rw [hf] at h; cases h
    | some q =>
      rw [hf] at h
      obtain ⟨L, h1, h2, h3⟩ := fields_may r (done ++ [q]) F h
      have hm : mayS done q = true := by
        unfold field fieldOf at hf
        split at hf
        · split at hf
          · unfold chk at hf; split at hf
            · injection hf with hf; rw [← hf]; assumption
            · cases hf
          · cases hf
        · split at hf
          · cases hf
          · unfold chk at hf; split at hf
            · injection hf with hf; rw [← hf]; assumption
            · cases hf
      refine ⟨q :: L, by rw [h1]; simp, by simp [h2], ?_⟩
      rw [textGo, if_pos hm]
      cases hq : textGo (done ++ [q]) L with
      | none => rw [hq] at h3; cases h3
      | some t => rfl
theorem fields_textS (Ps : List (List UInt8)) (h : (fieldsS Ps).2 = 0) : (textS (fieldsS Ps).1).2 = 0 := by
  unfold fieldsS at h ⊢
  split at h
  · exact absurd h (by decide)
  · rename_i hl
    rw [if_neg hl]
    cases hq : fieldsGo [] Ps with
    | none => rw [hq] at h; exact absurd h (by decide)
    | some F =>
      obtain ⟨L, h3, h4, h5⟩ := fields_may _ _ _ hq
      rw [List.nil_append] at h3
      subst h3
      show (textS F).2 = 0
      unfold textS
      rw [if_neg (by omega)]
      cases ht : textGo [] F with
      | none => rw [ht] at h5; cases h5
      | some t => rfl
theorem number_bdV (l : List UInt8) (most : Int) (h0 : 0 ≤ most) (h : (number l most).2 = 0) : 0 ≤ (number l most).1 ∧ (number l most).1 ≤ most := by
  by_cases hd : l = [] ∨ allc 1 l = false
  · unfold number at h; rw [if_pos hd] at h; exact absurd h (by decide)
  · have hb : l ≠ [] := fun h => hd (.inl h)
    have ha : l.all isDig = true := by
      rw [← allc_dig]
      cases h : allc 1 l
      · exact absurd (.inr h) hd
      · rfl
    rw [number_val most h0 l hb ha] at h ⊢
    split at h
    · rename_i hv
      rw [if_pos hv]
      exact ⟨valF_ge l 0 ha (Int.le_refl _), hv⟩
    · exact absurd h (by decide)


end Go.Proofs.YtipdiddjhimdcaaGreatDoor

namespace Go.Proofs.YtipdiddjhimdcaaGreatDoor

structure Hop where
  host : List UInt8
  port : Int
  ps : List Prm
deriving DecidableEq
/-- where a host ends: at a colon outside brackets -/
def endW : Bool → List UInt8 → Nat
  | _, [] => 0
  | i, c :: r => if i = true ∨ c.toNat ≠ 58 then endW (c.toNat == 91 || (i && !(c.toNat == 93))) r + 1 else 0
/-- a host, and a port, if there is one -/
def whereS (l : List UInt8) : (List UInt8 × Int) × Int :=
  if hostS (lowr (l.take (endW false l))) = false then (([], 0), 32)
  else if l.length ≤ endW false l then ((lowr (l.take (endW false l)), 0), 0)
  else if (number (l.drop (endW false l + 1)) 65535).2 = 0 ∧ 0 < (number (l.drop (endW false l + 1)) 65535).1 then ((lowr (l.take (endW false l)), (number (l.drop (endW false l + 1)) 65535).1), 0)
  else (([], 0), 33)
def byV (v : Hop) : List UInt8 := v.host ++ 58 :: digits (if v.port = 0 then 5060 else v.port)

theorem endW_le : ∀ (l : List UInt8) (i : Bool), endW i l ≤ l.length
  | [], i => Nat.zero_le _
  | c :: r, i => by
    rw [endW]
    split
    · have := endW_le r (c.toNat == 91 || (i && !(c.toNat == 93))); rw [List.length_cons]; omega
    · exact Nat.zero_le _
theorem host_low (h : List UInt8) (hh : hostS h = true) : lowr h = h ∧ h ≠ [] ∧ h.length ≤ 64 := by
  have := hh
  unfold hostS at this
  simp only [Bool.and_eq_true, decide_eq_true_eq, beq_iff_eq] at this
  exact ⟨this.1.2, fun e => by rw [e] at this; simp at this, this.1.1.2⟩
theorem where_ok (l : List UInt8) (h : (whereS l).2 = 0) : hostS (whereS l).1.1 = true ∧ 0 ≤ (whereS l).1.2 ∧ (whereS l).1.2 ≤ 65535 := by
  unfold whereS at h ⊢
  cases hh : hostS (lowr (l.take (endW false l)))
  · rw [hh, if_pos rfl] at h; exact absurd h (by decide)
  · rw [hh, if_neg (by decide)] at h
    rw [if_neg (by decide)]
    split
    · exact ⟨hh, Int.le_refl _, (show (0 : Int) ≤ 65535 by decide)⟩
    · rename_i hl
      rw [if_neg hl] at h
      split
      · rename_i hn
        have := number_bdV _ 65535 (by decide) hn.1
        exact ⟨hh, this.1, this.2⟩
      · rename_i hn
        rw [if_neg hn] at h; exact absurd h (by decide)
end Go.Proofs.YtipdiddjhimdcaaGreatDoor

namespace Go.Proofs.YtipdiddjhimdcaaGreatDoor

structure Uri where
  scheme : List UInt8
  user : List UInt8
  host : List UInt8
  port : Int
  ps : List Prm
  hs : List Prm
deriving DecidableEq
def uri0 : Uri := ⟨[], [], [], 0, [], []⟩
def nSip : List UInt8 := [115, 105, 112]
def nSips : List UInt8 := [115, 105, 112, 115]
def nPres : List UInt8 := [112, 114, 101, 115]
def schemeS (l : List UInt8) : Bool := l == nSip || l == nSips || l == nPres
def kUsers : List UInt8 := [38, 61, 43, 36, 44, 59, 63, 47]
def kParams : List UInt8 := [91, 93, 47, 58, 38, 43, 36]
def kHeaders : List UInt8 := [91, 93, 47, 63, 58, 43, 36]
def okU (p : Prm) : Bool := decide (1 ≤ p.name.length) && decide (p.name.length ≤ 64) && decide (p.value.length ≤ 64) && (p.has || p.value == [])
def twiceU (d : List Prm) (n : List UInt8) : Bool := d.any fun q => same q.name n
def listGo : List Prm → List Prm → Bool
  | _, [] => true
  | d, p :: r => okU p && !(twiceU d p.name) && listGo (d ++ [p]) r
def listU (L : List Prm) : Bool := decide (L.length ≤ 16) && listGo [] L
def checkU (u : Uri) : Int :=
  if schemeS u.scheme = false then 30 else if 64 < u.user.length then 31 else if hostS u.host = false then 32
  else if u.port < 0 ∨ 65535 < u.port then 33 else if listU u.ps = false then 34 else if listU u.hs = false then 34 else if (u.hs.all fun h => h.has) = false then 34 else 0
def mayW (keep : List UInt8) (c : UInt8) : Bool := c.toNat == 37 || testc 16 c || hasb keep c
def writtenS (l keep : List UInt8) : Option (List UInt8) := if l.all (mayW keep) = true then unesc l else none
def readGo (keep : List UInt8) : List (List UInt8) → Option (List Prm)
  | [] => some []
  | x :: r => (writtenS (cutb 61 x).1 keep).bind fun n => (writtenS (cutb 61 x).2.1 keep).bind fun v => (readGo keep r).map (⟨n, v, (cutb 61 x).2.2⟩ :: ·)
def userS (l : List UInt8) : Option (List UInt8 × List UInt8) :=
  if (cutb 64 l).2.2 = true then
    match writtenS (cutb 64 l).1 kUsers with
    | some t => if t = [] ∨ 64 < t.length then none else some (t, (cutb 64 l).2.1)
    | none => none
  else some ([], l)
def endU (u : Uri) : Uri × Int := if checkU u = 0 then (u, 0) else (uri0, checkU u)
def parseU4 (sc us : List UInt8) (w : (List UInt8 × Int) × Int) (P H : Option (List Prm)) : Uri × Int :=
  if w.2 ≠ 0 then (uri0, w.2) else
  match P, H with
  | some P, some H => endU ⟨sc, us, w.1.1, w.1.2, P, H⟩
  | _, _ => (uri0, 34)
def parseU3 (sc us r : List UInt8) : Uri × Int :=
  parseU4 sc us (whereS ((splitc 59 (cutb 63 r).1).headD [])) (readGo kParams (splitc 59 (cutb 63 r).1).tail) (if (cutb 63 r).2.2 = true then readGo kHeaders (splitc 38 (cutb 63 r).2.1) else some [])
def parseU2 (sc r : List UInt8) : Uri × Int :=
  match userS r with
  | none => (uri0, 31)
  | some x => parseU3 sc x.1 x.2
def parseU (l : List UInt8) : Uri × Int :=
  if (cutb 58 l).2.2 = false ∨ schemeS (lowr (cutb 58 l).1) = false then (uri0, 30) else parseU2 (lowr (cutb 58 l).1) (cutb 58 l).2.1

theorem checkU_parts (u : Uri) (h : checkU u = 0) : schemeS u.scheme = true ∧ u.user.length ≤ 64 ∧ hostS u.host = true ∧ 0 ≤ u.port ∧ u.port ≤ 65535 ∧ listU u.ps = true ∧ listU u.hs = true ∧ (u.hs.all fun h => h.has) = true := by
  unfold checkU at h
  cases h1 : schemeS u.scheme
  · rw [h1, if_pos rfl] at h; exact absurd h (by decide)
  · rw [h1, if_neg (by decide)] at h
    split at h
    · exact absurd h (by decide)
    · rename_i h2
      cases h3 : hostS u.host
      · rw [h3, if_pos rfl] at h; exact absurd h (by decide)
      · rw [h3, if_neg (by decide)] at h
        split at h
        · exact absurd h (by decide)
        · rename_i h4
          cases h5 : listU u.ps
          · rw [h5, if_pos rfl] at h; exact absurd h (by decide)
          · rw [h5, if_neg (by decide)] at h
            cases h6 : listU u.hs
            · rw [h6, if_pos rfl] at h; exact absurd h (by decide)
            · rw [h6, if_neg (by decide)] at h
              cases h7 : (u.hs.all fun h => h.has)
              · rw [h7, if_pos rfl] at h; exact absurd h (by decide)
              · exact ⟨rfl, by omega, rfl, by omega, by omega, rfl, rfl, rfl⟩
theorem endU_ok (u : Uri) : ((endU u).2 = 0 → checkU (endU u).1 = 0) ∧ ((endU u).2 ≠ 0 → (endU u).1 = uri0) := by
  unfold endU
  split
  · rename_i h; exact ⟨fun _ => h, fun h => absurd rfl h⟩
  · rename_i h; exact ⟨fun h1 => absurd h1 h, fun _ => rfl⟩
/-- WHAT IS READ MAY BE WRITTEN -/
theorem parseU_ok (l : List UInt8) : ((parseU l).2 = 0 → checkU (parseU l).1 = 0) ∧ ((parseU l).2 ≠ 0 → (parseU l).1 = uri0) := by
  have bad : ∀ c : Int, c ≠ 0 → ((uri0, c).2 = 0 → checkU (uri0, c).1 = 0) ∧ ((uri0, c).2 ≠ 0 → (uri0, c).1 = uri0) := fun c hc => ⟨fun h => absurd h hc, fun _ => rfl⟩
  unfold parseU
  split
  · exact bad 30 (by decide)
  · unfold parseU2
    split
    · exact bad 31 (by decide)
    · unfold parseU3 parseU4
      split
      · rename_i h; exact bad _ h
      · split
        · exact endU_ok _
        · exact bad 34 (by decide)
end Go.Proofs.YtipdiddjhimdcaaGreatDoor

namespace Go.Proofs.YtipdiddjhimdcaaGreatDoor
open Go.RowKit Go.Maps
open Go.WideMaps (keyOf_string_mk)

theorem undS : Tryz.prog.underlying 9 = some .string := by kernel_rfl
theorem undI : Tryz.prog.underlying 3 = some (.int .i64) := by kernel_rfl
theorem undM : Tryz.prog.underlying 206 = some (.map 9 3) := by kernel_rfl
theorem lawS : Keyed Tryz.prog 9 := string_keyed undS
theorem zeroI (w : World) : (zeroValue 3).run Tryz.prog w = .ok (.int .i64 0) w := by kernel_rfl
def z0 : DataW Unit := .lit (.int .i64 0)
def cntL (d : List Prm) (x : List UInt8) : Nat := (d.filter fun q => lowr q.name == x).length
/-- what the map of names holds -/
def CntIs (D : DataW Unit) (d : List Prm) : Prop := IsMap D ∧ ∀ x : List UInt8, D.atKey (.string x) z0 = .lit (.int .i64 (cntL d x))
theorem cnt_nil : CntIs (.map []) [] := ⟨isMap_empty, fun _ => rfl⟩
theorem isKey_str (x : List UInt8) (h : x.length ≤ maxLen) : WideAt.IsKeyLit (.string x) := by
  have := keyOf_string_mk (P := Tryz.prog) (k := 9) undS (s := bs x) (by rw [size_bs]; exact h)
  exact lawS.key this
theorem cnt_step {D : DataW Unit} {d : List Prm} (h : CntIs D d) (p : Prm) (hp : p.name.length ≤ 4294967280) :
    CntIs (D.put (.string (lowr p.name)) (.lit (.int .i64 ((cntL d (lowr p.name) : Int) + 1)))) (d ++ [p]) := by
  refine ⟨h.1.put _ _, fun x => ?_⟩
  by_cases hx : x = lowr p.name
  · subst hx
    rw [atKey_put_same h.1 (isKey_str _ (by rw [lowr_length]; unfold maxLen; omega))]
    unfold cntL
    rw [List.filter_append, List.length_append, List.filter_cons_of_pos (by simp)]
    simp
  · rw [atKey_put_other (by intro e; injection e with e; exact hx e), h.2]
    unfold cntL
    rw [List.filter_append, List.filter_cons_of_neg (by simpa using fun e => hx e.symm)]
    simp
theorem cnt_twice (d : List Prm) (n : List UInt8) : twiceU d n = decide (0 < cntL d (lowr n)) := by
  unfold twiceU cntL same
  rw [Bool.eq_iff_iff, decide_eq_true_iff, List.any_eq_true, List.length_pos_iff_exists_mem]
  constructor
  · rintro ⟨q, hq, h⟩; exact ⟨q, List.mem_filter.2 ⟨hq, h⟩⟩
  · rintro ⟨q, hq⟩; exact ⟨q, (List.mem_filter.1 hq).1, (List.mem_filter.1 hq).2⟩
theorem cnt_le (d : List Prm) (x : List UInt8) : cntL d x ≤ d.length := List.length_filter_le _ _
theorem own_below {w w' : World} {P : Program} {k : TypeId} {R : Value → Option (DataW Unit × List MemPlace)} {b n B : Nat} {D : DataW Unit} (h : w.ownsMap P k R b n D) (hB : Below B w w') (hb : b < B) : w'.ownsMap P k R b n D := by
  obtain ⟨es, clock, hh, rest⟩ := h
  exact ⟨es, clock, (hB.block b hb).trans hh, rest⟩
theorem blk_grown {w w' : World} {g b : Nat} {t : TypeId} {cs : Array Value} (h : Blk w g t cs) (hg : w.grownBy w' (some b)) (hne : g ≠ b) : Blk w' g t cs := by
  have h1 : w.heap[g]? = some (.cells cs t (0, 0)) := h
  exact (hg.block g (Array.getElem?_eq_some_iff.1 h1).1 (by simpa using hne)).trans h1
theorem list_bad (L : List Prm) (k : Nat) (hk : k < L.length) (hp : listGo [] L = listGo (L.take k) (L.drop k)) (h : okU L[k] = false ∨ twiceU (L.take k) L[k].name = true) : listU L = false := by
  unfold listU
  rw [hp, List.drop_eq_getElem_cons hk, listGo]
  rcases h with h | h <;> rw [h] <;> simp
theorem list_next (L : List Prm) (k : Nat) (hk : k < L.length) (hp : listGo [] L = listGo (L.take k) (L.drop k)) (h : okU L[k] = true) (h2 : twiceU (L.take k) L[k].name = false) : listGo [] L = listGo (L.take (k + 1)) (L.drop (k + 1)) := by
  rw [hp, List.drop_eq_getElem_cons hk, listGo, h, h2, List.take_succ_eq_append_getElem hk]; simp
theorem list_end (L : List Prm) (k : Nat) (hk : L.length ≤ k) (h16 : L.length ≤ 16) (hp : listGo [] L = listGo (L.take k) (L.drop k)) : listU L = true := by
  unfold listU
  rw [hp, List.drop_eq_nil_iff.2 hk, listGo, decide_eq_true h16]; rfl
theorem list_long (L : List Prm) (h : ¬ L.length ≤ 16) : listU L = false := by
  unfold listU; rw [decide_eq_false h]; rfl
theorem okU_cases (p : Prm) (N V : ByteArray) (hN : N.size = p.name.length) (hV : V.size = p.value.length) (tw : Bool) :
    (N.size = 0 ∧ okU p = false) ∨ (N.size ≠ 0 ∧ 64 < N.size ∧ okU p = false) ∨ (N.size ≠ 0 ∧ ¬ 64 < N.size ∧ 64 < V.size ∧ okU p = false) ∨
    (N.size ≠ 0 ∧ ¬ 64 < N.size ∧ ¬ 64 < V.size ∧ tw = true) ∨ (N.size ≠ 0 ∧ ¬ 64 < N.size ∧ ¬ 64 < V.size ∧ tw = false ∧ p.has = false ∧ V.size ≠ 0 ∧ okU p = false) ∨
    (N.size ≠ 0 ∧ ¬ 64 < N.size ∧ ¬ 64 < V.size ∧ tw = false ∧ p.has = false ∧ V.size = 0 ∧ okU p = true) ∨ (N.size ≠ 0 ∧ ¬ 64 < N.size ∧ ¬ 64 < V.size ∧ tw = false ∧ p.has = true ∧ okU p = true) := by
  have e : okU p = (decide (N.size ≠ 0) && decide (N.size ≤ 64) && decide (V.size ≤ 64) && (p.has || decide (V.size = 0))) := by
    unfold okU
    rw [← hN, ← hV]
    congr 1
    · congr 1; congr 1
      rw [Bool.eq_iff_iff, decide_eq_true_iff, decide_eq_true_iff]; omega
    · congr 1
      rw [Bool.eq_iff_iff, beq_iff_eq, decide_eq_true_iff, hV, List.length_eq_zero_iff]
  rw [e]
  by_cases h1 : N.size = 0
  · exact .inl ⟨h1, by simp [h1]⟩
  refine .inr ?_
  by_cases h2 : 64 < N.size
  · exact .inl ⟨h1, h2, by rw [show decide (N.size ≤ 64) = false from decide_eq_false (by omega)]; simp⟩
  refine .inr ?_
  by_cases h3 : 64 < V.size
  · exact .inl ⟨h1, h2, h3, by rw [show decide (V.size ≤ 64) = false from decide_eq_false (by omega)]; simp⟩
  refine .inr ?_
  cases tw
  case true => exact .inl ⟨h1, h2, h3, rfl⟩
  refine .inr ?_
  have a1 : decide (N.size ≠ 0) = true := decide_eq_true h1
  have a2 : decide (N.size ≤ 64) = true := decide_eq_true (by omega)
  have a3 : decide (V.size ≤ 64) = true := decide_eq_true (by omega)
  rw [a1, a2, a3]
  cases hh : p.has
  · by_cases h4 : V.size = 0
    · exact .inr (.inl ⟨h1, h2, h3, rfl, rfl, h4, by simp [h4]⟩)
    · exact .inl ⟨h1, h2, h3, rfl, rfl, h4, by simp [h4]⟩
  · exact .inr (.inr ⟨h1, h2, h3, rfl, rfl, by simp⟩)
section
variable {P : Program} {ops : Array Oper} {rest : List Oper} {o : Oper} {a : Act} {Q : Exit → Act → World → Prop}
end

set_option maxRecDepth 100000 in
set_option maxHeartbeats 6400000 in
theorem listF_c (v : Value) (L : List Prm) (w : World) (h1 : RPrms w v L) (hbd : ∀ p ∈ L, p.name.length ≤ 4294967280 ∧ p.value.length ≤ 4294967280) :
    Calls Tryz.prog 142 #[v] w fun e w' => e = .returned (.bool (listU L)) ∧ Below w.heap.size w w' := by
  obtain ⟨ao, cap, rfl, hm1, c1⟩ := h1.form
  have C1 := Lib.hid c1
  have HBD := Lib.hid hbd
  clear c1 h1 hbd
  unfold maxLen at hm1
  have hmm := @run_makeMap Tryz.prog
  by_cases h16 : L.length ≤ 16
  case neg =>
    have HE := Lib.hid (list_long L h16)
    go_enter Tryz.func142, Tryz.ntmps142
    go_wp2
    go_ret
    exact ⟨ret_bool HE.out.symm, Below.refl _ _⟩
  · have HLB := Lib.hid (fun k hk => list_bad L k hk)
    have HLN := Lib.hid (fun k hk => list_next L k hk)
    have HLE := Lib.hid (fun k hk => list_end L k hk h16)
    go_enter Tryz.func142, Tryz.ntmps142
    go_wp2
    go_loopw [13] (fun i wr => ∃ (k : Nat) (D : DataW Unit), k ≤ L.length ∧ i = .int .i64 k ∧ wr.ownsMap Tryz.prog 9 (plainElem Tryz.prog 3) w.heap.size k D ∧ Hid (CntIs D (L.take k)) ∧ Hid (Below w.heap.size w wr) ∧ Hid (listGo [] L = listGo (L.take k) (L.drop k))) (fun i _ => L.length - (intOf i).toNat)
    case atStart => exact ⟨0, .map [], Nat.zero_le _, rfl, World.ownsMap_made _ _ _ _, Lib.hid cnt_nil, Lib.hid ((Below.refl _ _).alloc (Nat.le_refl _) _), Lib.hid rfl⟩
    case round =>
      obtain ⟨k, D, hk, rfl, hown, HC, HB, HP⟩ := hrel
      by_cases hlt : k < L.length
      · obtain ⟨b, off, rfl, hb1, hc1⟩ := C1.out (by omega)
        have x0 : wr.cell? ⟨b, off + k * 3, none⟩ = some (.string (bs L[k].name)) := by rw [HB.out.cell (p := ⟨b, off + k * 3, none⟩) hb1]; exact (hc1 k hlt).1
        have x1 : wr.cell? ⟨b, off + k * 3 + 1, none⟩ = some (.string (bs L[k].value)) := by rw [HB.out.cell (p := ⟨b, off + k * 3 + 1, none⟩) hb1]; exact (hc1 k hlt).2.1
        have x2 : wr.cell? ⟨b, off + k * 3 + 2, none⟩ = some (.bool L[k].has) := by rw [HB.out.cell (p := ⟨b, off + k * 3 + 2, none⟩) hb1]; exact (hc1 k hlt).2.2
        have hpb := HBD.out _ (List.getElem_mem hlt)
        have hcs := okU_cases L[k] (bs L[k].name) (bs L[k].value) (size_bs _) (size_bs _) (twiceU (L.take k) L[k].name)
        have hct := cnt_twice (L.take k) L[k].name
        have hcl := cnt_le (L.take k) (lowr L[k].name)
        rw [List.length_take, Nat.min_eq_left (by omega)] at hcl
        have hst := cnt_step HC.out L[k] hpb.1
        have hat0 := HC.out.2 (lowr L[k].name)
        have hatk := atKey_put_same (D := D) (k := .string (lowr L[k].name)) HC.out.1 (isKey_str _ (by rw [lowr_length]; unfold maxLen; omega)) (.lit (.int .i64 ((cntL (L.take k) (lowr L[k].name) : Int) + 1))) z0
        have HL := Lib.hid (fun wx => lowerP_c (bs L[k].name) (by rw [size_bs]; omega) wx)
        rw [us_bs] at HL
        have hkey : keyOf Tryz.prog 9 (.string (bs (lowr L[k].name))) = some (.string (lowr L[k].name)) := by
          have := keyOf_string_mk (P := Tryz.prog) (k := 9) undS (s := bs (lowr L[k].name)) (by rw [size_bs, lowr_length]; unfold maxLen; omega)
          rw [this]; simp [bs]
        obtain ⟨c0, hc0⟩ : ∃ c, c = cntL (L.take k) (lowr L[k].name) := ⟨_, rfl⟩
        rw [← hc0] at hct hcl hst hat0 hatk
        rw [← List.take_succ_eq_append_getElem hlt] at hst
        obtain ⟨tw, htw⟩ : ∃ t, t = twiceU (L.take k) L[k].name := ⟨_, rfl⟩
        rw [← htw] at hcs hct
        obtain ⟨kl, hkl⟩ : ∃ l, l = lowr L[k].name := ⟨_, rfl⟩
        rw [← hkl] at hst hat0 hatk hkey HL
        obtain ⟨LW, hLW⟩ : ∃ l, l = bs kl := ⟨_, rfl⟩
        rw [← hLW] at hkey HL
        obtain ⟨N, hN⟩ : ∃ N, N = bs L[k].name := ⟨_, rfl⟩
        rw [← hN] at x0 hcs HL
        obtain ⟨V, hV⟩ : ∃ V, V = bs L[k].value := ⟨_, rfl⟩
        rw [← hV] at x1 hcs
        have hNs : N.size ≤ 4294967280 := by rw [hN, size_bs]; omega
        have hVs : V.size ≤ 4294967280 := by rw [hV, size_bs]; omega
        have HCC := Lib.hid (fun (c : Int) (h : D.atKey (.string kl) (.lit (.int .i64 0)) = .lit (.int .i64 c)) => (show (c0 : Int) = c from by have := hat0.symm.trans h; injection this with this; injection this))
        have HCD := Lib.hid (fun (c : Int) (h : (D.put (.string kl) (.lit (.int .i64 ((c0 : Int) + 1)))).atKey (.string kl) (.lit (.int .i64 0)) = .lit (.int .i64 c)) => (show (c0 : Int) + 1 = c from by have := hatk.symm.trans h; injection this with this; injection this))
        have HK := Lib.hid hkey
        have HST := Lib.hid hst
        have HTW := Lib.hid htw
        have c16 : c0 ≤ 16 := by omega
        have c00 : (0 : Int) ≤ (c0 : Int) := by omega
        have k0 : (0 : Int) ≤ (k : Int) := by omega
        have k1 : (k : Int) < (L.length : Int) := by omega
        have hwl := hown.lt
        obtain ⟨h, hh⟩ : ∃ h, h = L[k].has := ⟨_, rfl⟩
        rw [← hh] at x2 hcs
        have bm0 : Blk (wr.alloc (.cells #[.string N, .string V, .bool h] 85)) wr.heap.size 85 #[.string N, .string V, .bool h] := Blk.new _ _ _
        have hownp := own_below hown ((Below.refl wr.heap.size wr).alloc (Nat.le_refl _) (.cells #[.string N, .string V, .bool h] 85)) hwl
        have hBp := HB.out.alloc (Nat.le_of_lt hwl) (.cells #[.string N, .string V, .bool h] 85)
        obtain ⟨wp, hwp⟩ : ∃ wp, wp = wr.alloc (.cells #[.string N, .string V, .bool h] 85) := ⟨_, rfl⟩
        rw [← hwp] at bm0 hownp hBp
        have hltp := hownp.lt
        have HWP := Lib.hid hwp
        have HBP := Lib.hid hBp
        have HNE := Lib.hid (show wr.heap.size ≠ w.heap.size by omega)
        clear hc1 hb1 hpb hst hat0 hatk hkey hc0 htw hkl hLW hN hV hh hwp hBp
        rcases hcs with ⟨n1, ho⟩ | ⟨n1, n2, ho⟩ | ⟨n1, n2, n3, ho⟩ | ⟨n1, n2, n3, rfl⟩ | ⟨n1, n2, n3, rfl, rfl, n4, ho⟩ | ⟨n1, n2, n3, rfl, rfl, n4, ho⟩ | ⟨n1, n2, n3, rfl, rfl, ho⟩
        · obtain rfl := eq_empty n1
          clear n1
          have HE := Lib.hid (HLB.out k hlt HP.out (.inl ho))
          go_wp2_with (first | (go_at_call 96; (try rw [← HWP.out]); refine (HL.out _).mono ?_; rintro e w1 ⟨rfl, hC1⟩; have bm1 := bm0.call hC1; have hown1 := own_below hownp hC1 hltp; have hB1 := HBP.out.trans (hC1.mono HBP.out.size); have HBS := Lib.hid hB1; obtain ⟨c3, hrun1, hat3, hwc3⟩ := hown1.lookup_int lawS undM undI (zeroI _) HK.out; obtain rfl := HCC.out c3 hat3; clear hat3 hwc3) | (at_mapUpdate; refine wpList_mapUpdate_own _ rfl _ _ _ 206 rfl 9 3 lawS undM _ w.heap.size k _ rfl hown1 (by unfold maxLen; omega) _ _ _ rfl rfl HK.out _ [] (plainElem_int undI (WalkArith.wf_i64 (by omega))) ?_; intro w2 hown2 hgrow2; have bm2 := blk_grown bm1 hgrow2 HNE.out; have hB2 := HBS.out.grown hgrow2 HBS.out.size (fun j hj => by cases hj; exact Nat.le_refl _); obtain ⟨r0, r1, r2, f0, f1, f2, hz⟩ := bm2.f3; obtain ⟨c2, hrun, hat2, hwc2⟩ := hown2.lookup_int lawS undM undI (zeroI _) HK.out; obtain rfl := HCD.out c2 hat2; clear hat2 hwc2))
          go_ret
          exact ⟨ret_bool HE.out.symm, hB2⟩
        · have pE := ne_empty n1
          have pF := isEmpty_f n1
          have HE := Lib.hid (HLB.out k hlt HP.out (.inl ho))
          go_wp2_with (first | (go_at_call 96; (try rw [← HWP.out]); refine (HL.out _).mono ?_; rintro e w1 ⟨rfl, hC1⟩; have bm1 := bm0.call hC1; have hown1 := own_below hownp hC1 hltp; have hB1 := HBP.out.trans (hC1.mono HBP.out.size); have HBS := Lib.hid hB1; obtain ⟨c3, hrun1, hat3, hwc3⟩ := hown1.lookup_int lawS undM undI (zeroI _) HK.out; obtain rfl := HCC.out c3 hat3; clear hat3 hwc3) | (at_mapUpdate; refine wpList_mapUpdate_own _ rfl _ _ _ 206 rfl 9 3 lawS undM _ w.heap.size k _ rfl hown1 (by unfold maxLen; omega) _ _ _ rfl rfl HK.out _ [] (plainElem_int undI (WalkArith.wf_i64 (by omega))) ?_; intro w2 hown2 hgrow2; have bm2 := blk_grown bm1 hgrow2 HNE.out; have hB2 := HBS.out.grown hgrow2 HBS.out.size (fun j hj => by cases hj; exact Nat.le_refl _); obtain ⟨r0, r1, r2, f0, f1, f2, hz⟩ := bm2.f3; obtain ⟨c2, hrun, hat2, hwc2⟩ := hown2.lookup_int lawS undM undI (zeroI _) HK.out; obtain rfl := HCD.out c2 hat2; clear hat2 hwc2))
          go_ret
          exact ⟨ret_bool HE.out.symm, hB2⟩
        · have pE := ne_empty n1
          have pF := isEmpty_f n1
          have HE := Lib.hid (HLB.out k hlt HP.out (.inl ho))
          go_wp2_with (first | (go_at_call 96; (try rw [← HWP.out]); refine (HL.out _).mono ?_; rintro e w1 ⟨rfl, hC1⟩; have bm1 := bm0.call hC1; have hown1 := own_below hownp hC1 hltp; have hB1 := HBP.out.trans (hC1.mono HBP.out.size); have HBS := Lib.hid hB1; obtain ⟨c3, hrun1, hat3, hwc3⟩ := hown1.lookup_int lawS undM undI (zeroI _) HK.out; obtain rfl := HCC.out c3 hat3; clear hat3 hwc3) | (at_mapUpdate; refine wpList_mapUpdate_own _ rfl _ _ _ 206 rfl 9 3 lawS undM _ w.heap.size k _ rfl hown1 (by unfold maxLen; omega) _ _ _ rfl rfl HK.out _ [] (plainElem_int undI (WalkArith.wf_i64 (by omega))) ?_; intro w2 hown2 hgrow2; have bm2 := blk_grown bm1 hgrow2 HNE.out; have hB2 := HBS.out.grown hgrow2 HBS.out.size (fun j hj => by cases hj; exact Nat.le_refl _); obtain ⟨r0, r1, r2, f0, f1, f2, hz⟩ := bm2.f3; obtain ⟨c2, hrun, hat2, hwc2⟩ := hown2.lookup_int lawS undM undI (zeroI _) HK.out; obtain rfl := HCD.out c2 hat2; clear hat2 hwc2))
          go_ret
          exact ⟨ret_bool HE.out.symm, hB2⟩
        · have pE := ne_empty n1
          have pF := isEmpty_f n1
          have c1 : (1 : Int) < (c0 : Int) + 1 := by have := of_decide_eq_true hct.symm; omega
          clear hct
          have HE := Lib.hid (HLB.out k hlt HP.out (.inr HTW.out.symm))
          go_wp2_with (first | (go_at_call 96; (try rw [← HWP.out]); refine (HL.out _).mono ?_; rintro e w1 ⟨rfl, hC1⟩; have bm1 := bm0.call hC1; have hown1 := own_below hownp hC1 hltp; have hB1 := HBP.out.trans (hC1.mono HBP.out.size); have HBS := Lib.hid hB1; obtain ⟨c3, hrun1, hat3, hwc3⟩ := hown1.lookup_int lawS undM undI (zeroI _) HK.out; obtain rfl := HCC.out c3 hat3; clear hat3 hwc3) | (at_mapUpdate; refine wpList_mapUpdate_own _ rfl _ _ _ 206 rfl 9 3 lawS undM _ w.heap.size k _ rfl hown1 (by unfold maxLen; omega) _ _ _ rfl rfl HK.out _ [] (plainElem_int undI (WalkArith.wf_i64 (by omega))) ?_; intro w2 hown2 hgrow2; have bm2 := blk_grown bm1 hgrow2 HNE.out; have hB2 := HBS.out.grown hgrow2 HBS.out.size (fun j hj => by cases hj; exact Nat.le_refl _); obtain ⟨r0, r1, r2, f0, f1, f2, hz⟩ := bm2.f3; obtain ⟨c2, hrun, hat2, hwc2⟩ := hown2.lookup_int lawS undM undI (zeroI _) HK.out; obtain rfl := HCD.out c2 hat2; clear hat2 hwc2))
          go_ret
          exact ⟨ret_bool HE.out.symm, hB2⟩
        · have pE := ne_empty n1
          have pF := isEmpty_f n1
          have c1 : ¬ ((1 : Int) < (c0 : Int) + 1) := by have := of_decide_eq_false hct.symm; omega
          clear hct
          have qE := ne_empty n4
          have qF := isEmpty_f n4
          have HE := Lib.hid (HLB.out k hlt HP.out (.inl ho))
          go_wp2_with (first | (go_at_call 96; (try rw [← HWP.out]); refine (HL.out _).mono ?_; rintro e w1 ⟨rfl, hC1⟩; have bm1 := bm0.call hC1; have hown1 := own_below hownp hC1 hltp; have hB1 := HBP.out.trans (hC1.mono HBP.out.size); have HBS := Lib.hid hB1; obtain ⟨c3, hrun1, hat3, hwc3⟩ := hown1.lookup_int lawS undM undI (zeroI _) HK.out; obtain rfl := HCC.out c3 hat3; clear hat3 hwc3) | (at_mapUpdate; refine wpList_mapUpdate_own _ rfl _ _ _ 206 rfl 9 3 lawS undM _ w.heap.size k _ rfl hown1 (by unfold maxLen; omega) _ _ _ rfl rfl HK.out _ [] (plainElem_int undI (WalkArith.wf_i64 (by omega))) ?_; intro w2 hown2 hgrow2; have bm2 := blk_grown bm1 hgrow2 HNE.out; have hB2 := HBS.out.grown hgrow2 HBS.out.size (fun j hj => by cases hj; exact Nat.le_refl _); obtain ⟨r0, r1, r2, f0, f1, f2, hz⟩ := bm2.f3; obtain ⟨c2, hrun, hat2, hwc2⟩ := hown2.lookup_int lawS undM undI (zeroI _) HK.out; obtain rfl := HCD.out c2 hat2; clear hat2 hwc2))
          go_ret
          exact ⟨ret_bool HE.out.symm, hB2⟩
        · have pE := ne_empty n1
          have pF := isEmpty_f n1
          have c1 : ¬ ((1 : Int) < (c0 : Int) + 1) := by have := of_decide_eq_false hct.symm; omega
          clear hct
          obtain rfl := eq_empty n4
          clear n4
          have HN := Lib.hid (HLN.out k hlt HP.out ho HTW.out.symm)
          go_wp2_with (first | (go_at_call 96; (try rw [← HWP.out]); refine (HL.out _).mono ?_; rintro e w1 ⟨rfl, hC1⟩; have bm1 := bm0.call hC1; have hown1 := own_below hownp hC1 hltp; have hB1 := HBP.out.trans (hC1.mono HBP.out.size); have HBS := Lib.hid hB1; obtain ⟨c3, hrun1, hat3, hwc3⟩ := hown1.lookup_int lawS undM undI (zeroI _) HK.out; obtain rfl := HCC.out c3 hat3; clear hat3 hwc3) | (at_mapUpdate; refine wpList_mapUpdate_own _ rfl _ _ _ 206 rfl 9 3 lawS undM _ w.heap.size k _ rfl hown1 (by unfold maxLen; omega) _ _ _ rfl rfl HK.out _ [] (plainElem_int undI (WalkArith.wf_i64 (by omega))) ?_; intro w2 hown2 hgrow2; have bm2 := blk_grown bm1 hgrow2 HNE.out; have hB2 := HBS.out.grown hgrow2 HBS.out.size (fun j hj => by cases hj; exact Nat.le_refl _); obtain ⟨r0, r1, r2, f0, f1, f2, hz⟩ := bm2.f3; obtain ⟨c2, hrun, hat2, hwc2⟩ := hown2.lookup_int lawS undM undI (zeroI _) HK.out; obtain rfl := HCD.out c2 hat2; clear hat2 hwc2))
          go_roundw
          case rel => exact ⟨k + 1, _, by omega, by go_num, hown2, HST, Lib.hid hB2, HN⟩
          case measure => simp [intOf]; omega
        · have pE := ne_empty n1
          have pF := isEmpty_f n1
          have c1 : ¬ ((1 : Int) < (c0 : Int) + 1) := by have := of_decide_eq_false hct.symm; omega
          clear hct
          have HN := Lib.hid (HLN.out k hlt HP.out ho HTW.out.symm)
          go_wp2_with (first | (go_at_call 96; (try rw [← HWP.out]); refine (HL.out _).mono ?_; rintro e w1 ⟨rfl, hC1⟩; have bm1 := bm0.call hC1; have hown1 := own_below hownp hC1 hltp; have hB1 := HBP.out.trans (hC1.mono HBP.out.size); have HBS := Lib.hid hB1; obtain ⟨c3, hrun1, hat3, hwc3⟩ := hown1.lookup_int lawS undM undI (zeroI _) HK.out; obtain rfl := HCC.out c3 hat3; clear hat3 hwc3) | (at_mapUpdate; refine wpList_mapUpdate_own _ rfl _ _ _ 206 rfl 9 3 lawS undM _ w.heap.size k _ rfl hown1 (by unfold maxLen; omega) _ _ _ rfl rfl HK.out _ [] (plainElem_int undI (WalkArith.wf_i64 (by omega))) ?_; intro w2 hown2 hgrow2; have bm2 := blk_grown bm1 hgrow2 HNE.out; have hB2 := HBS.out.grown hgrow2 HBS.out.size (fun j hj => by cases hj; exact Nat.le_refl _); obtain ⟨r0, r1, r2, f0, f1, f2, hz⟩ := bm2.f3; obtain ⟨c2, hrun, hat2, hwc2⟩ := hown2.lookup_int lawS undM undI (zeroI _) HK.out; obtain rfl := HCD.out c2 hat2; clear hat2 hwc2))
          go_roundw
          case rel => exact ⟨k + 1, _, by omega, by go_num, hown2, HST, Lib.hid hB2, HN⟩
          case measure => simp [intOf]; omega
      · have HE := Lib.hid (HLE.out k (by omega) HP.out)
        go_wp2
        go_ret
        exact ⟨ret_bool HE.out.symm, HB.out⟩

end Go.Proofs.YtipdiddjhimdcaaGreatDoor

namespace Go.Proofs.YtipdiddjhimdcaaGreatDoor
open Go.RowKit

theorem idx_has : ∀ (l : List UInt8) (c : UInt8), -1 ≤ Lib.indexByte l c ∧ hasb l c = decide (0 ≤ Lib.indexByte l c)
  | [], c => ⟨by rw [Lib.indexByte]; omega, rfl⟩
  | b :: l, c => by
    obtain ⟨h1, h2⟩ := idx_has l c
    unfold hasb at h2 ⊢
    rw [List.any_cons, h2, Lib.indexByte]
    by_cases hb : b = c
    · subst hb
      rw [if_pos (by simp)]
      exact ⟨by omega, by simp⟩
    · have e : (b.toNat == c.toNat) = false := by
        rw [beq_eq_false_iff_ne]; intro h; exact hb (UInt8.toNat_inj.1 h)
      rw [if_neg (by simpa using hb), e, Bool.false_or]
      by_cases hm : Lib.indexByte l c = -1
      · rw [if_pos (by rw [hm]; rfl), hm]; exact ⟨by decide, rfl⟩
      · rw [if_neg (by simpa using hm)]
        exact ⟨by omega, by rw [Bool.eq_iff_iff, decide_eq_true_iff, decide_eq_true_iff]; omega⟩
theorem idxB_c (K : ByteArray) (c : UInt8) (w : World) :
    Calls Tryz.prog 58 #[.string K, .int .u8 c.toNat] w fun e w' => e = .returned (.int .i64 (Lib.indexByte (us K) c)) ∧ w = w' := by
  refine (Tryz.strings_IndexByte K c.toNat w).mono ?_
  rintro e w' ⟨rfl, rfl⟩
  exact ⟨by simp [us], rfl⟩
theorem ret_sb {a b : ByteArray} {x y : Bool} (h : a = b) (h' : x = y) : Ending.returned (.tuple #[.string a, .bool x]) = .returned (.tuple #[.string b, .bool y]) := by rw [h, h']
def optB (o : Option (List UInt8)) : List UInt8 × Bool := match o with | some r => (r, true) | none => ([], false)
def optP (o : Option (List Prm)) : List Prm × Bool := match o with | some r => (r, true) | none => ([], false)
theorem mayW_cases (K : List UInt8) (c : UInt8) :
    (((c.toNat : Int) != 37) = false ∧ mayW K c = true) ∨ (((c.toNat : Int) != 37) = true ∧ (bits BinOp.and IntKind.i64 (cls c) 16 == 0) = false ∧ mayW K c = true) ∨
    (((c.toNat : Int) != 37) = true ∧ (bits BinOp.and IntKind.i64 (cls c) 16 == 0) = true ∧ ¬ Lib.indexByte K c < 0 ∧ mayW K c = true) ∨ (((c.toNat : Int) != 37) = true ∧ (bits BinOp.and IntKind.i64 (cls c) 16 == 0) = true ∧ Lib.indexByte K c < 0 ∧ mayW K c = false) := by
  obtain ⟨h1, h2⟩ := idx_has K c
  have e : mayW K c = (c.toNat == 37 || !(bits BinOp.and IntKind.i64 (cls c) 16 == 0) || hasb K c) := rfl
  rw [e, h2]
  by_cases h : c.toNat = 37
  · exact .inl ⟨by simp; omega, by simp [h]⟩
  have hn : ((c.toNat : Int) != 37) = true := by simp; omega
  have hm : (c.toNat == 37) = false := by simpa using h
  rw [hm, hn]
  cases (bits BinOp.and IntKind.i64 (cls c) 16 == 0)
  · exact .inr (.inl ⟨rfl, rfl, rfl⟩)
  · by_cases hz : Lib.indexByte K c < 0
    · exact .inr (.inr (.inr ⟨rfl, rfl, hz, by rw [decide_eq_false (by omega)]; rfl⟩))
    · exact .inr (.inr (.inl ⟨rfl, rfl, hz, by rw [decide_eq_true (by omega)]; rfl⟩))
theorem written_bad (s : ByteArray) (K : List UInt8) (k : Nat) (h : k < s.size) (hb : mayW K s[k] = false) : optB (writtenS (us s) K) = ([], false) := by
  unfold writtenS
  rw [if_neg]
  · rfl
  · intro ha
    rw [List.all_eq_true] at ha
    have := ha s[k] (List.mem_of_getElem? (get_us s k h))
    rw [hb] at this; cases this
theorem written_more (s : ByteArray) (K : List UInt8) (k : Nat) (h : k < s.size) (hp : ((us s).take k).all (mayW K) = true) (hb : mayW K s[k] = true) : ((us s).take (k + 1)).all (mayW K) = true := by
  rw [take_us s k h, List.all_append, hp]; simp [hb]
theorem written_end (s : ByteArray) (K : List UInt8) (k : Nat) (h : s.size ≤ k) (hp : ((us s).take k).all (mayW K) = true) :
    ∃ b : Bool, optB (writtenS (us s) K) = ((unescape (us s)).1, b) ∧ ((unescape (us s)).2 == 0) = b := by
  rw [List.take_of_length_le (by rw [length_us]; exact h)] at hp
  unfold writtenS unescape
  rw [if_pos hp]
  cases unesc (us s) with
  | none => exact ⟨false, rfl, rfl⟩
  | some r => exact ⟨true, rfl, rfl⟩

set_option maxHeartbeats 1600000 in
theorem plain_c (s K : ByteArray) (hs : s.size ≤ 4294967280) (w : World) :
    Calls Tryz.prog 110 #[.string s, .string K] w fun e w' => e = .returned (.tuple #[.string (bs (optB (writtenS (us s) (us K))).1), .bool (optB (writtenS (us s) (us K))).2]) ∧ Below w.heap.size w w' := by
  have HU := Lib.hid (fun wx => unescape_c s (by omega) wx)
  have HWB := Lib.hid (fun k h hb => written_bad s (us K) k h hb)
  have HWM := Lib.hid (fun k h hp hb => written_more s (us K) k h hp hb)
  have HWE := Lib.hid (fun k h hp => written_end s (us K) k h hp)
  go_enter Tryz.func110, Tryz.ntmps110
  go_wp2
  go_loop [11] (fun i => ∃ k : Nat, k ≤ s.size ∧ i = .int .i64 k ∧ Hid (((us s).take k).all (mayW (us K)) = true)) (fun i => s.size - (intOf i).toNat)
  case atStart => exact ⟨0, Nat.zero_le _, rfl, Lib.hid rfl⟩
  case round =>
    obtain ⟨k, hk, rfl, HP⟩ := hrel
    by_cases hlt : k < s.size
    · rcases mayW_cases (us K) s[k] with ⟨h1, hm⟩ | ⟨h1, h2, hm⟩ | ⟨h1, h2, h3, hm⟩ | ⟨h1, h2, h3, hm⟩
      iterate 3
        · have HN := Lib.hid (HWM.out k hlt HP.out hm)
          clear hm
          go_wp2_with (first | (go_at_call 92; refine (class_c _ _).mono ?_; rintro e w' ⟨rfl, rfl⟩) | (go_at_call 58; refine (idxB_c K _ _).mono ?_; rintro e w' ⟨rfl, rfl⟩))
          go_round
          case rel => exact ⟨k + 1, by omega, by go_num, HN⟩
          case measure => simp [intOf]; omega
      · have HN := Lib.hid (HWB.out k hlt hm)
        clear hm
        go_wp2_with (first | (go_at_call 92; refine (class_c _ _).mono ?_; rintro e w' ⟨rfl, rfl⟩) | (go_at_call 58; refine (idxB_c K _ _).mono ?_; rintro e w' ⟨rfl, rfl⟩))
        go_ret2
        exact ⟨by rw [HN.out]; rfl, Below.refl _ _⟩
    · obtain ⟨b, hb1, hb2⟩ := HWE.out k (by omega) HP.out
      have HN := Lib.hid hb1
      obtain ⟨q, hq⟩ : ∃ q, q = unescape (us s) := ⟨_, rfl⟩
      rw [← hq] at HU hb2 HN
      clear hq hb1
      obtain ⟨t, e⟩ := q
      dsimp only at HU hb2 HN
      go_wp2_with (first | (go_at_call 159; refine (HU.out _).mono ?_; rintro e w1 ⟨rfl, hC1⟩))
      go_ret2
      exact ⟨ret_sb (by rw [HN.out]) (by rw [HN.out]), hC1⟩

theorem read_step (K : List UInt8) (Ps : List (List UInt8)) (L : List Prm) (k : Nat) (h : k < Ps.length) (n v : List UInt8) (a b : Bool) (ha : optB (writtenS (cutb 61 Ps[k]).1 K) = (n, a)) (hb : optB (writtenS (cutb 61 Ps[k]).2.1 K) = (v, b))
    (hp : readGo K Ps = (readGo K (Ps.drop k)).map (L ++ ·)) :
    (a = false ∧ optP (readGo K Ps) = ([], false)) ∨ (a = true ∧ b = false ∧ optP (readGo K Ps) = ([], false)) ∨ (a = true ∧ b = true ∧ readGo K Ps = (readGo K (Ps.drop (k + 1))).map ((L ++ [⟨n, v, (cutb 61 Ps[k]).2.2⟩]) ++ ·)) := by
  rw [hp, List.drop_eq_getElem_cons h, readGo]
  cases h1 : writtenS (cutb 61 Ps[k]).1 K with
  | none =>
    rw [h1] at ha
    injection ha with _ ha
    exact .inl ⟨ha.symm, rfl⟩
  | some x =>
    rw [h1] at ha
    injection ha with ha1 ha
    subst ha1
    cases h2 : writtenS (cutb 61 Ps[k]).2.1 K with
    | none =>
      rw [h2] at hb
      injection hb with _ hb
      exact .inr (.inl ⟨ha.symm, hb.symm, rfl⟩)
    | some y =>
      rw [h2] at hb
      injection hb with hb1 hb
      subst hb1
      refine .inr (.inr ⟨ha.symm, hb.symm, ?_⟩)
      dsimp only [Option.bind]
      cases readGo K (Ps.drop (k + 1)) with
      | none => rfl
      | some R => simp
theorem read_end (K : List UInt8) (Ps : List (List UInt8)) (L : List Prm) (k : Nat) (h : Ps.length ≤ k) (hp : readGo K Ps = (readGo K (Ps.drop k)).map (L ++ ·)) : optP (readGo K Ps) = (L, true) := by
  rw [hp, List.drop_eq_nil_iff.2 h]; simp [readGo, optP]
theorem optB_len (l K : List UInt8) : (optB (writtenS l K)).1.length ≤ l.length := by
  have key : ∀ (n : Nat) (l : List UInt8), l.length ≤ n → ∀ r, unesc l = some r → r.length ≤ l.length := by
    intro n
    induction n with
    | zero =>
      intro l hl r hr
      have : l = [] := List.eq_nil_of_length_eq_zero (by omega)
      subst this
      rw [unesc] at hr; injection hr with hr; rw [← hr]; exact Nat.le_refl _
    | succ n ih =>
      intro l hl r hr
      cases l with
      | nil => rw [unesc] at hr; injection hr with hr; rw [← hr]; exact Nat.le_refl _
      | cons c t =>
        rw [List.length_cons] at hl
        by_cases hc : c.toNat = 37
        · cases t with
          | nil => rw [unesc.eq_def] at hr; dsimp only at hr; rw [if_pos hc] at hr; cases hr
          | cons a t =>
            cases t with
            | nil => rw [unesc.eq_def] at hr; dsimp only at hr; rw [if_pos hc] at hr; cases hr
            | cons b r' =>
              rw [unesc.eq_def] at hr; dsimp only at hr; rw [if_pos hc] at hr
              split at hr
              · obtain ⟨y, hy, rfl⟩ := Option.map_eq_some_iff.1 hr
                have := ih r' (by simp at hl; omega) y hy
                simp; omega
              · cases hr
        · rw [unesc_ne c t hc] at hr
          obtain ⟨y, hy, rfl⟩ := Option.map_eq_some_iff.1 hr
          have := ih t (by omega) y hy
          simp; omega
  unfold writtenS
  split
  · cases h : unesc l with
    | none => exact Nat.zero_le _
    | some r => exact key _ l (Nat.le_refl _) r h
  · exact Nat.zero_le _
def ReadPost (r : List Prm × Bool) (w : World) (e : Ending) (w' : World) : Prop := ∃ u, e = .returned (.tuple #[u, .bool r.2]) ∧ RPrms w' u r.1 ∧ Fresh w.heap.size u ∧ Below w.heap.size w w'

set_option maxRecDepth 100000 in
set_option maxHeartbeats 3200000 in
theorem read_c (v0 : Value) (Ps : List (List UInt8)) (K : ByteArray) (w : World) (hm : Ml w) (hv : RStrs w v0 Ps) (hbd : ∀ x ∈ Ps, x.length ≤ 4294967280) (hn : Ps.length ≤ 4294967290) :
    Calls Tryz.prog 113 #[v0, .string K] w (ReadPost (optP (readGo (us K) Ps)) w) := by
  have HM := Lib.hid hm
  rcases hv.form with ⟨ao, cap, rfl, hm1, c1⟩
  have C1 := Lib.hid c1
  have HBD := Lib.hid hbd
  clear c1 hv hbd hm
  unfold maxLen at hm1
  have HRS := Lib.hid (fun L k h n v a b ha hb hp => read_step (us K) Ps L k h n v a b ha hb hp)
  have HRE := Lib.hid (fun L k h hp => read_end (us K) Ps L k h hp)
  obtain ⟨R, hR⟩ : ∃ R, R = optP (readGo (us K) Ps) := ⟨_, rfl⟩
  rw [← hR] at HRS HRE ⊢
  go_enter Tryz.func113, Tryz.ntmps113
  go_wp2
  go_loopw [6, 18] (fun v i wr => ∃ (k : Nat) (L : List Prm), k ≤ Ps.length ∧ Hid (L.length = k) ∧ i = .int .i64 k ∧ Prms wr w.heap.size v L ∧ Below w.heap.size w wr ∧ Hid (readGo (us K) Ps = (readGo (us K) (Ps.drop k)).map (L ++ ·))) (fun _ i _ => Ps.length - (intOf i).toNat)
  case atStart => exact ⟨0, [], Nat.zero_le _, Lib.hid rfl, rfl, Prms.nil _ _, Below.refl _ _, Lib.hid (by simp)⟩
  case round =>
    obtain ⟨k, L, hk, HLk, rfl, hown, hB, HP⟩ := hrel
    by_cases hlt : k < Ps.length
    · obtain ⟨b, off, rfl, hb1, hc1⟩ := C1.out (by omega)
      have x0 : wr.cell? ⟨b, off + k, none⟩ = some (.string (bs Ps[k])) := (hB.cell (p := ⟨b, off + k, none⟩) hb1).trans (hc1 k hlt)
      have hxl := HBD.out _ (List.getElem_mem hlt)
      have hcl := cutb_le 61 Ps[k]
      have HMr := Lib.hid (HM.out.below hB)
      have HCT := Lib.hid (fun wx hx => cut_c (bs Ps[k]) (by rw [size_bs]; omega) 61 wx hx)
      rw [us_bs] at HCT
      have HRk := Lib.hid (fun n v a b ha hb => HRS.out L k hlt n v a b ha hb HP.out)
      obtain ⟨X, hX⟩ : ∃ X, X = bs Ps[k] := ⟨_, rfl⟩
      rw [← hX] at x0 HCT
      obtain ⟨q, hq⟩ : ∃ q, q = cutb 61 Ps[k] := ⟨_, rfl⟩
      rw [← hq] at HCT hcl HRk
      clear hX hq hc1 HP
      obtain ⟨n0, v0, has⟩ := q
      dsimp only at HCT hcl HRk
      have HP1 := Lib.hid (fun wx => plain_c (bs n0) K (by rw [size_bs]; omega) wx)
      have HP2 := Lib.hid (fun wx => plain_c (bs v0) K (by rw [size_bs]; omega) wx)
      rw [us_bs] at HP1 HP2
      have HRk' := Lib.hid (HRk.out (optB (writtenS n0 (us K))).1 (optB (writtenS v0 (us K))).1 (optB (writtenS n0 (us K))).2 (optB (writtenS v0 (us K))).2 (by rfl) (by rfl))
      have hl1 := optB_len n0 (us K)
      have hl2 := optB_len v0 (us K)
      obtain ⟨a, ha⟩ : ∃ a, a = optB (writtenS n0 (us K)) := ⟨_, rfl⟩
      obtain ⟨c, hc⟩ : ∃ a, a = optB (writtenS v0 (us K)) := ⟨_, rfl⟩
      rw [← ha] at HP1 HRk' hl1
      rw [← hc] at HP2 HRk' hl2
      clear ha hc HRk
      obtain ⟨n, a⟩ := a
      obtain ⟨v, c⟩ := c
      dsimp only at HP1 HP2 HRk' hl1 hl2
      have hcs := HRk'.out
      have HO := Lib.hid hown
      have HB := Lib.hid hB
      have k0 : (0 : Int) ≤ (k : Int) := by omega
      have k1 : (k : Int) < (Ps.length : Int) := by omega
      obtain ⟨N, hN⟩ : ∃ N, N = bs n := ⟨_, rfl⟩
      obtain ⟨V, hV⟩ : ∃ V, V = bs v := ⟨_, rfl⟩
      rw [← hN] at HP1
      rw [← hV] at HP2
      have HNu := Lib.hid (show us N = n by rw [hN, us_bs])
      have HVu := Lib.hid (show us V = v by rw [hV, us_bs])
      clear hN hV hown hB hb1 HRk'
      rcases hcs with ⟨rfl, hR0⟩ | ⟨rfl, rfl, hR0⟩ | ⟨rfl, rfl, hst⟩
      iterate 2
        · have HE := Lib.hid hR0
          clear hR0
          go_wp2_with (first | (go_at_call 47; refine (HCT.out _ (HMr.out)).mono ?_; rintro e w1 ⟨rfl, hD⟩; have hb1 := HB.out.trans (hD.below (B := w.heap.size)); have ho1 := HO.out.below (hD.below (B := wr.heap.size)) (Nat.le_refl _)) | (go_at_call 110; (first | ((with_reducible refine (HP1.out _).mono ?_); rintro e w2 ⟨rfl, hC2⟩) | ((with_reducible refine (HP2.out _).mono ?_); rintro e w2 ⟨rfl, hC2⟩)); have ho1 := ho1.below hC2 (Nat.le_refl _); have hb1 := hb1.trans (hC2.mono hb1.size)))
          go_ret2
          exact ⟨_, by rw [HE.out]; rfl, .inl ⟨⟨_, _, rfl⟩, by rw [HE.out]⟩, Fresh.nil _ _ _, hb1⟩
      · have HE := Lib.hid hst
        clear hst
        go_wp2_with (first | (go_at_call 47; refine (HCT.out _ (HMr.out)).mono ?_; rintro e w1 ⟨rfl, hD⟩; have hb1 := HB.out.trans (hD.below (B := w.heap.size)); have ho1 := HO.out.below (hD.below (B := wr.heap.size)) (Nat.le_refl _)) | (go_at_call 110; (first | ((with_reducible refine (HP1.out _).mono ?_); rintro e w2 ⟨rfl, hC2⟩) | ((with_reducible refine (HP2.out _).mono ?_); rintro e w2 ⟨rfl, hC2⟩)); have ho1 := ho1.below hC2 (Nat.le_refl _); have hb1 := hb1.trans (hC2.mono hb1.size)) | (at_builtin; refine wpList_appP1 ⟨n, v, has⟩ HNu.out HVu.out rfl rfl rfl Tryz.underlying22 infoP rfl rfl ho1 hb1 (Nat.le_refl _) ?_ ?_; (focus (have := HLk.out; omega)); intro v' w' hown2 hb2))
        go_roundw
        case rel => exact ⟨k + 1, _, by omega, Lib.hid (by rw [List.length_append, HLk.out]; rfl), by go_num, hown2, hb2, HE⟩
        case measure => simp [intOf]; omega
    · have HE := Lib.hid (HRE.out L k (by omega) HP.out)
      clear HP
      go_wp2
      go_ret2
      exact ⟨_, by rw [HE.out]; rfl, by rw [HE.out]; exact hown.read, hown.fresh, hB⟩

end Go.Proofs.YtipdiddjhimdcaaGreatDoor

