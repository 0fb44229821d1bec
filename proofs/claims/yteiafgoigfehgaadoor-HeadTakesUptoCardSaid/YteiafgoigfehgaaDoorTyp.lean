/-
  head.Type, rosterref08.Type.
  head.Accepts, rosterref08.Accepts.
-/
import Derived.Test.YteiafgoigfehgaaDoorEvt
namespace Go.Proofs.YteiafgoigfehgaaDoor

section
open Go.RowKit

/-- a media type without its parameters, and whether it is one -/
def typeOf (l : List UInt8) : List UInt8 := lowr (trim ((parts l 59).headD []))
def typeOk (l : List UInt8) : Bool := (cutb 47 (typeOf l)).2.2 && token (cutb 47 (typeOf l)).1 && token (cutb 47 (typeOf l)).2.1
theorem typeOf_le (l : List UInt8) : (typeOf l).length ≤ l.length := by
  unfold typeOf
  rw [lowr_length]
  refine Nat.le_trans (trim_le _) ?_
  refine parts_bd 59 l _ ?_
  have := parts_ne 59 l
  cases h : parts l 59 with
  | nil => exact absurd h this
  | cons x r => simp

set_option maxHeartbeats 1600000 in
theorem type_c (s : ByteArray) (hs : s.size ≤ 4294967280) (w : World) (hm : Ml w) :
    Calls Tryd.prog 11 #[.string s] w fun e w' => e = .returned (.tuple #[.string (bs (typeOf (us s))), .bool (typeOk (us s))]) ∧ Below w.heap.size w w' := by
  have HM := Lib.hid hm
  clear hm
  have hty := typeOf_le (us s)
  have hcl := cutb_le 47 (typeOf (us s))
  rw [length_us] at hty
  have HB := Lib.hid (fun p hp => Nat.le_trans (parts_bd 59 (us s) p hp) (by rw [length_us]; exact hs))
  have HPC := Lib.hid (fun wx => parts_c s (by omega) 59 wx)
  have hne := parts_ne 59 (us s)
  have HN := Lib.hid (show typeOf (us s) = lowr (trim ((parts (us s) 59).headD [])) from rfl)
  have HCT := Lib.hid (fun wx (hx : Ml wx) => (cut_c (bs (typeOf (us s))) (by rw [size_bs]; omega) 47 wx hx))
  rw [us_bs] at HCT
  have HO := Lib.hid (show typeOk (us s) = ((cutb 47 (typeOf (us s))).2.2 && token (cutb 47 (typeOf (us s))).1 && token (cutb 47 (typeOf (us s))).2.1) from rfl)
  have HT1 := Lib.hid (fun wx => token_c (bs (cutb 47 (typeOf (us s))).1) (by rw [size_bs]; omega) wx)
  have HT2 := Lib.hid (fun wx => token_c (bs (cutb 47 (typeOf (us s))).2.1) (by rw [size_bs]; omega) wx)
  rw [us_bs] at HT1 HT2
  obtain ⟨L, hL⟩ : ∃ L, L = parts (us s) 59 := ⟨_, rfl⟩
  rw [← hL] at HB HPC HN hne
  clear hL
  obtain ⟨x, r, rfl⟩ : ∃ x r, L = x :: r := by cases L with | nil => exact absurd rfl hne | cons x r => exact ⟨x, r, rfl⟩
  clear hne
  have hxl := HB.out x (List.mem_cons_self ..)
  have htl := trim_le x
  have HTR := Lib.hid (fun wx => trim_c (bs x) (by rw [size_bs]; omega) wx)
  rw [us_bs] at HTR
  have HLW := Lib.hid (fun wx => lowerP_c (bs (trim x)) (by rw [size_bs]; omega) wx)
  rw [us_bs, show lowr (trim x) = typeOf (us s) from HN.out.symm] at HLW
  obtain ⟨tx, htx⟩ : ∃ tx, tx = trim x := ⟨_, rfl⟩
  rw [← htx] at HTR HLW
  clear htx hxl htl HN HB
  obtain ⟨ty, hty'⟩ : ∃ ty, ty = typeOf (us s) := ⟨_, rfl⟩
  rw [← hty'] at HLW HCT HO HT1 HT2 ⊢
  clear hty'
  obtain ⟨c, hc⟩ : ∃ c, c = cutb 47 ty := ⟨_, rfl⟩
  rw [← hc] at HCT HO HT1 HT2
  clear hc hcl hty
  obtain ⟨ca, cb, ok⟩ := c
  dsimp only at HCT HO HT1 HT2
  cases ok <;> cases ha : token ca <;> cases hb : token cb
  all_goals
    rw [ha] at HT1 HO; rw [hb] at HT2 HO
    clear ha hb
    go_enter Tryd.func11, Tryd.ntmps11
    go_wp2_with (first | (go_at_call 38; refine (HPC.out _).mono ?_; rintro e w1 ⟨v, rfl, hv, hC⟩; have HV := Lib.hid hv; obtain ⟨ao, cap, rfl, hm1, c1⟩ := hv.form; obtain ⟨b, off, rfl, hb1, hc1⟩ := c1 (by simp); have x0 := hc1 0 (by simp); rw [Nat.add_zero] at x0; have k1 : (0 : Int) < ((x :: r).length : Int) := (by simp); clear hc1 c1; unfold maxLen at hm1) | (go_at_call 37; refine (HTR.out _).mono ?_; rintro e wx ⟨rfl, rfl⟩) | (go_at_call 36; refine (HLW.out _).mono ?_; rintro e w2 ⟨rfl, hC2⟩; have hB2 := hC.trans (hC2.mono hC.size)) | (go_at_call 39; refine (HCT.out _ (HM.out.below hB2)).mono ?_; rintro e w3 ⟨rfl, hD⟩; have hB3 := hB2.trans (hD.below (B := w.heap.size))) | (go_at_call 40; first | ((with_reducible refine (HT1.out _).mono ?_); rintro e wx ⟨rfl, rfl⟩) | ((with_reducible refine (HT2.out _).mono ?_); rintro e wx ⟨rfl, rfl⟩)))
    go_ret2
    exact ⟨by rw [HO.out]; rfl, hB3⟩

set_option maxHeartbeats 1600000 in
theorem typeR_c (s : ByteArray) (hs : s.size ≤ 4294967280) (w : World) :
    Calls Tryd.prog 12 #[.string s] w fun e w' => e = .returned (.tuple #[.string (bs (typeOf (us s))), .bool (typeOk (us s))]) ∧ Below w.heap.size w w' := by
  have hty := typeOf_le (us s)
  have hcl := cutb_le 47 (typeOf (us s))
  rw [length_us] at hty
  have HB := Lib.hid (fun p hp => Nat.le_trans (parts_bd 59 (us s) p hp) (by rw [length_us]; exact hs))
  have HPC := Lib.hid (fun wx => partsR_c s (by omega) 59 wx)
  have hne := parts_ne 59 (us s)
  have HN := Lib.hid (show typeOf (us s) = lowr (trim ((parts (us s) 59).headD [])) from rfl)
  have HCT := Lib.hid (fun wx => (cutR_c (bs (typeOf (us s))) (by rw [size_bs]; omega) 47 wx))
  rw [us_bs] at HCT
  have HO := Lib.hid (show typeOk (us s) = ((cutb 47 (typeOf (us s))).2.2 && token (cutb 47 (typeOf (us s))).1 && token (cutb 47 (typeOf (us s))).2.1) from rfl)
  have HT1 := Lib.hid (fun wx => tokenR_c (bs (cutb 47 (typeOf (us s))).1) (by rw [size_bs]; omega) wx)
  have HT2 := Lib.hid (fun wx => tokenR_c (bs (cutb 47 (typeOf (us s))).2.1) (by rw [size_bs]; omega) wx)
  rw [us_bs] at HT1 HT2
  obtain ⟨L, hL⟩ : ∃ L, L = parts (us s) 59 := ⟨_, rfl⟩
  rw [← hL] at HB HPC HN hne
  clear hL
  obtain ⟨x, r, rfl⟩ : ∃ x r, L = x :: r := by cases L with | nil => exact absurd rfl hne | cons x r => exact ⟨x, r, rfl⟩
  clear hne
  have hxl := HB.out x (List.mem_cons_self ..)
  have htl := trim_le x
  have HTR := Lib.hid (fun wx => trimR_c (bs x) (by rw [size_bs]; omega) wx)
  rw [us_bs] at HTR
  have HLW := Lib.hid (fun wx => lowerR_c (bs (trim x)) (by rw [size_bs]; omega) wx)
  rw [us_bs, show lowr (trim x) = typeOf (us s) from HN.out.symm] at HLW
  obtain ⟨tx, htx⟩ : ∃ tx, tx = trim x := ⟨_, rfl⟩
  rw [← htx] at HTR HLW
  clear htx hxl htl HN HB
  obtain ⟨ty, hty'⟩ : ∃ ty, ty = typeOf (us s) := ⟨_, rfl⟩
  rw [← hty'] at HLW HCT HO HT1 HT2 ⊢
  clear hty'
  obtain ⟨c, hc⟩ : ∃ c, c = cutb 47 ty := ⟨_, rfl⟩
  rw [← hc] at HCT HO HT1 HT2
  clear hc hcl hty
  obtain ⟨ca, cb, ok⟩ := c
  dsimp only at HCT HO HT1 HT2
  cases ok <;> cases ha : token ca <;> cases hb : token cb
  all_goals
    rw [ha] at HT1 HO; rw [hb] at HT2 HO
    clear ha hb
    go_enter Tryd.func12, Tryd.ntmps12
    go_wp2_with (first | (go_at_call 43; refine (HPC.out _).mono ?_; rintro e w1 ⟨v, rfl, hv, hC⟩; have HV := Lib.hid hv; obtain ⟨ao, cap, rfl, hm1, c1⟩ := hv.form; obtain ⟨b, off, rfl, hb1, hc1⟩ := c1 (by simp); have x0 := hc1 0 (by simp); rw [Nat.add_zero] at x0; have k1 : (0 : Int) < ((x :: r).length : Int) := (by simp); clear hc1 c1; unfold maxLen at hm1) | (go_at_call 42; refine (HTR.out _).mono ?_; rintro e wx ⟨rfl, rfl⟩) | (go_at_call 41; refine (HLW.out _).mono ?_; rintro e w2 ⟨rfl, hC2⟩; have hB2 := hC.trans (hC2.mono hC.size)) | (go_at_call 44; refine (HCT.out _).mono ?_; rintro e w3 ⟨rfl, hD⟩; have hB3 := hB2.trans (hD.below (B := w.heap.size))) | (go_at_call 45; first | ((with_reducible refine (HT1.out _).mono ?_); rintro e wx ⟨rfl, rfl⟩) | ((with_reducible refine (HT2.out _).mono ?_); rintro e wx ⟨rfl, rfl⟩)))
    go_ret2
    exact ⟨by rw [HO.out]; rfl, hB3⟩
end

section
open Go.RowKit

def takes (ty : List UInt8) (ok : Bool) (s : List UInt8) : Bool := ok && typeOk s && (typeOf s == ty || typeOf s == [42, 47, 42] || typeOf s == (cutb 47 ty).1 ++ [47, 42])
/-- does one of some ranges take a type? -/
def acceptsS (L : List (List UInt8)) (t : List UInt8) : Bool := L.any (takes (typeOf t) (typeOk t))
theorem any_yes (f : List UInt8 → Bool) (L : List (List UInt8)) (k : Nat) (h : k < L.length) (hf : f L[k] = true) : L.any f = true := List.any_eq_true.2 ⟨_, List.getElem_mem h, hf⟩
theorem any_next (f : List UInt8 → Bool) (L : List (List UInt8)) (k : Nat) (h : k < L.length) (hf : f L[k] = false) (hp : (L.take k).any f = false) : (L.take (k + 1)).any f = false := by
  rw [List.take_succ_eq_append_getElem h, List.any_append, hp]; simp [hf]

set_option maxHeartbeats 1600000 in
theorem accepts_c (v : Value) (L : List (List UInt8)) (s : ByteArray) (hs : s.size ≤ 4294967280) (w : World) (hm : Ml w) (hv : RStrs w v L) (hbd : ∀ x ∈ L, x.length ≤ 4294967280) :
    Calls Tryd.prog 13 #[v, .string s] w fun e w' => e = .returned (.bool (acceptsS L (us s))) ∧ Below w.heap.size w w' := by
  have HM := Lib.hid hm
  have HBD := Lib.hid hbd
  clear hm hbd
  obtain ⟨ao, cap, rfl, hm1, c1⟩ := hv.form
  have C1 := Lib.hid c1
  clear c1 hv
  unfold maxLen at hm1
  have hty := typeOf_le (us s)
  rw [length_us] at hty
  have hcl := cutb_le 47 (typeOf (us s))
  have HT := Lib.hid (fun wx (hx : Ml wx) => type_c s hs wx hx)
  have HCT := Lib.hid (fun wx (hx : Ml wx) => cut_c (bs (typeOf (us s))) (by rw [size_bs]; omega) 47 wx hx)
  rw [us_bs] at HCT
  have HTE := Lib.hid (fun wx (hx : Ml wx) (x : List UInt8) (hxl : x.length ≤ 4294967280) => type_c (bs x) (by rw [size_bs]; exact hxl) wx hx)
  simp only [us_bs] at HTE
  have HA := Lib.hid (show acceptsS L (us s) = L.any (takes (typeOf (us s)) (typeOk (us s))) from rfl)
  have HTK := Lib.hid (fun x => show takes (typeOf (us s)) (typeOk (us s)) x = (typeOk (us s) && typeOk x && (typeOf x == typeOf (us s) || typeOf x == [42, 47, 42] || typeOf x == (cutb 47 (typeOf (us s))).1 ++ [47, 42])) from rfl)
  obtain ⟨f, hf⟩ : ∃ f, f = takes (typeOf (us s)) (typeOk (us s)) := ⟨_, rfl⟩
  rw [← hf] at HA HTK
  clear hf
  obtain ⟨ok, hok⟩ : ∃ ok, ok = typeOk (us s) := ⟨_, rfl⟩
  obtain ⟨ty, hty'⟩ : ∃ ty, ty = typeOf (us s) := ⟨_, rfl⟩
  rw [← hok] at HT HTK
  rw [← hty'] at HT HTK HCT hcl hty
  clear hok hty'
  obtain ⟨c, hc⟩ : ∃ c, c = cutb 47 ty := ⟨_, rfl⟩
  rw [← hc] at HCT HTK hcl
  clear hc
  obtain ⟨fr, bk, cf⟩ := c
  dsimp only at HCT HTK hcl
  obtain ⟨TY, hTY⟩ : ∃ TY, TY = bs ty := ⟨_, rfl⟩
  rw [← hTY] at HT HCT
  obtain ⟨FR, hFR⟩ : ∃ FR, FR = bs fr := ⟨_, rfl⟩
  rw [← hFR] at HCT
  have hFs : FR.size ≤ 4294967280 := by rw [hFR, size_bs]; omega
  have hTYu : ty = us TY := by rw [hTY, us_bs]
  have hFRu : fr = us FR := by rw [hFR, us_bs]
  rw [hTYu, hFRu] at HTK
  clear hTY hFR hTYu hFRu hcl hty
  go_enter Tryd.func13, Tryd.ntmps13
  go_wp2_with (first | (go_at_call 11; refine (HT.out _ HM.out).mono ?_; rintro e w1 ⟨rfl, hC⟩) | (go_at_call 39; refine (HCT.out _ (HM.out.below hC)).mono ?_; rintro e w2 ⟨rfl, hD⟩; have hB2 := hC.trans (hD.below (B := w.heap.size)); clear hC hD))
  go_loopw [26] (fun i wr => ∃ k : Nat, k ≤ L.length ∧ i = .int .i64 k ∧ (L.take k).any f = false ∧ Below w.heap.size w wr) (fun i _ => L.length - (intOf i).toNat)
  case atStart => exact ⟨0, Nat.zero_le _, rfl, rfl, hB2⟩
  case round =>
    obtain ⟨k, hk, rfl, hb, hB⟩ := hrel
    have HB := Lib.hid hb; clear hb
    by_cases hlt : k < L.length
    · obtain ⟨b, off, rfl, hb1, hc1⟩ := C1.out (by omega)
      have x1 : wr.cell? ⟨b, off + k, none⟩ = some (.string (bs L[k])) := by
        rw [hB.cell (p := ⟨b, off + k, none⟩) hb1]; exact hc1 k hlt
      have k0 : (0 : Int) ≤ (k : Int) := by omega
      have k1 : (k : Int) < (L.length : Int) := by omega
      clear hc1
      have HX := Lib.hid (fun h => HA.out.trans (any_yes f L k hlt h))
      have HY := Lib.hid (fun h => any_next f L k hlt h HB.out)
      have hTL := HTK.out L[k]
      have HTk := Lib.hid (HTE.out wr (HM.out.below hB) L[k] (HBD.out _ (List.getElem_mem hlt)))
      obtain ⟨is, his⟩ : ∃ is, is = typeOk L[k] := ⟨_, rfl⟩
      obtain ⟨rt, hrt⟩ : ∃ rt, rt = typeOf L[k] := ⟨_, rfl⟩
      rw [← his, ← hrt] at hTL HTk
      clear his hrt
      obtain ⟨RT, hRT⟩ : ∃ RT, RT = bs rt := ⟨_, rfl⟩
      have hRTu : rt = us RT := by rw [hRT, us_bs]
      rw [← hRT] at HTk
      rw [hRTu] at hTL
      clear hRT hRTu
      obtain ⟨fx, hfx⟩ : ∃ fx, fx = f L[k] := ⟨_, rfl⟩
      rw [← hfx] at HX HY hTL
      clear hfx
      rw [← toList_us, ← toList_us, show us FR ++ [47, 42] = (FR ++ ⟨#[47, 42]⟩ : ByteArray).toList from by rw [toList_us, us_append]; rfl] at hTL
      have HTL := Lib.hid hTL
      clear hTL
      have hcase : (ok = false ∧ fx = false) ∨ (ok = true ∧ is = false ∧ fx = false) ∨ (ok = true ∧ is = true ∧ (RT.toList == TY.toList) = true ∧ fx = true) ∨ (ok = true ∧ is = true ∧ (RT.toList == TY.toList) = false ∧ (RT.toList == [42, 47, 42]) = true ∧ fx = true) ∨
          (ok = true ∧ is = true ∧ (RT.toList == TY.toList) = false ∧ (RT.toList == [42, 47, 42]) = false ∧ (RT.toList == (FR ++ ⟨#[47, 42]⟩ : ByteArray).toList) = true ∧ fx = true) ∨ (ok = true ∧ is = true ∧ (RT.toList == TY.toList) = false ∧ (RT.toList == [42, 47, 42]) = false ∧ (RT.toList == (FR ++ ⟨#[47, 42]⟩ : ByteArray).toList) = false ∧ fx = false) := by
        rw [HTL.out]
        cases ok <;> cases is <;> cases (RT.toList == TY.toList) <;> cases (RT.toList == [42, 47, 42]) <;> cases (RT.toList == (FR ++ ⟨#[47, 42]⟩ : ByteArray).toList) <;> decide
      clear HTL
      rcases hcase with ⟨rfl, hfx⟩ | ⟨rfl, rfl, hfx⟩ | ⟨rfl, rfl, e1, hfx⟩ | ⟨rfl, rfl, e1, e2, hfx⟩ | ⟨rfl, rfl, e1, e2, e3, hfx⟩ | ⟨rfl, rfl, e1, e2, e3, hfx⟩
      case inl | inr.inl =>
        all_goals
          have HG := Lib.hid (HY.out hfx)
          clear hfx
          go_wp2_with (go_at_call 11; refine (HTk.out).mono ?_; rintro e w3 ⟨rfl, hC3⟩)
          go_roundw
          case rel => exact ⟨k + 1, by omega, by go_num, HG.out, hB.trans (hC3.mono hB.size)⟩
          case measure => simp [intOf]; omega
      case inr.inr.inr.inr.inr =>
          have HG := Lib.hid (HY.out hfx)
          clear hfx
          have n1 : ¬ RT.toList = TY.toList := by simpa using e1
          have n2 : ¬ RT.toList = [42, 47, 42] := by simpa using e2
          go_wp2_with (go_at_call 11; refine (HTk.out).mono ?_; rintro e w3 ⟨rfl, hC3⟩)
          go_roundw
          case rel => exact ⟨k + 1, by omega, by go_num, HG.out, hB.trans (hC3.mono hB.size)⟩
          case measure => simp [intOf]; omega
      case inr.inr.inl =>
          have HG := Lib.hid (HX.out hfx)
          clear hfx
          have n1 : RT.toList = TY.toList := by simpa using e1
          have N1 := Lib.hid n1
          clear n1
          go_wp2_with (go_at_call 11; refine (HTk.out).mono ?_; rintro e w3 ⟨rfl, hC3⟩)
          all_goals
            go_ret
            exact ⟨ret_bool (by rw [HG.out]), hB.trans (hC3.mono hB.size)⟩
      case inr.inr.inr.inl =>
          have HG := Lib.hid (HX.out hfx)
          clear hfx
          have n1 : ¬ RT.toList = TY.toList := by simpa using e1
          go_wp2_with (go_at_call 11; refine (HTk.out).mono ?_; rintro e w3 ⟨rfl, hC3⟩)
          all_goals
            go_ret
            exact ⟨ret_bool (by rw [HG.out]), hB.trans (hC3.mono hB.size)⟩
      case inr.inr.inr.inr.inl =>
          have HG := Lib.hid (HX.out hfx)
          clear hfx
          have n1 : ¬ RT.toList = TY.toList := by simpa using e1
          have n2 : ¬ RT.toList = [42, 47, 42] := by simpa using e2
          go_wp2_with (go_at_call 11; refine (HTk.out).mono ?_; rintro e w3 ⟨rfl, hC3⟩)
          all_goals
            go_ret
            exact ⟨ret_bool (by rw [HG.out]), hB.trans (hC3.mono hB.size)⟩
    · have hE2 : L.take k = L := List.take_of_length_le (by omega)
      rw [hE2] at HB
      clear hE2
      go_wp2
      go_ret
      exact ⟨ret_bool (by rw [HA.out, HB.out]), hB⟩

set_option maxHeartbeats 1600000 in
theorem acceptsR_c (v : Value) (L : List (List UInt8)) (s : ByteArray) (hs : s.size ≤ 4294967280) (w : World) (hv : RStrs w v L) (hbd : ∀ x ∈ L, x.length ≤ 4294967280) :
    Calls Tryd.prog 14 #[v, .string s] w fun e w' => e = .returned (.bool (acceptsS L (us s))) ∧ Below w.heap.size w w' := by
  have HBD := Lib.hid hbd
  clear hbd
  obtain ⟨ao, cap, rfl, hm1, c1⟩ := hv.form
  have C1 := Lib.hid c1
  clear c1 hv
  unfold maxLen at hm1
  have hty := typeOf_le (us s)
  rw [length_us] at hty
  have hcl := cutb_le 47 (typeOf (us s))
  have HT := Lib.hid (fun wx => typeR_c s hs wx)
  have HCT := Lib.hid (fun wx => cutR_c (bs (typeOf (us s))) (by rw [size_bs]; omega) 47 wx)
  rw [us_bs] at HCT
  have HTE := Lib.hid (fun wx (x : List UInt8) (hxl : x.length ≤ 4294967280) => typeR_c (bs x) (by rw [size_bs]; exact hxl) wx)
  simp only [us_bs] at HTE
  have HA := Lib.hid (show acceptsS L (us s) = L.any (takes (typeOf (us s)) (typeOk (us s))) from rfl)
  have HTK := Lib.hid (fun x => show takes (typeOf (us s)) (typeOk (us s)) x = (typeOk (us s) && typeOk x && (typeOf x == typeOf (us s) || typeOf x == [42, 47, 42] || typeOf x == (cutb 47 (typeOf (us s))).1 ++ [47, 42])) from rfl)
  obtain ⟨f, hf⟩ : ∃ f, f = takes (typeOf (us s)) (typeOk (us s)) := ⟨_, rfl⟩
  rw [← hf] at HA HTK
  clear hf
  obtain ⟨ok, hok⟩ : ∃ ok, ok = typeOk (us s) := ⟨_, rfl⟩
  obtain ⟨ty, hty'⟩ : ∃ ty, ty = typeOf (us s) := ⟨_, rfl⟩
  rw [← hok] at HT HTK
  rw [← hty'] at HT HTK HCT hcl hty
  clear hok hty'
  obtain ⟨c, hc⟩ : ∃ c, c = cutb 47 ty := ⟨_, rfl⟩
  rw [← hc] at HCT HTK hcl
  clear hc
  obtain ⟨fr, bk, cf⟩ := c
  dsimp only at HCT HTK hcl
  obtain ⟨TY, hTY⟩ : ∃ TY, TY = bs ty := ⟨_, rfl⟩
  rw [← hTY] at HT HCT
  obtain ⟨FR, hFR⟩ : ∃ FR, FR = bs fr := ⟨_, rfl⟩
  rw [← hFR] at HCT
  have hFs : FR.size ≤ 4294967280 := by rw [hFR, size_bs]; omega
  have hTYu : ty = us TY := by rw [hTY, us_bs]
  have hFRu : fr = us FR := by rw [hFR, us_bs]
  rw [hTYu, hFRu] at HTK
  clear hTY hFR hTYu hFRu hcl hty
  go_enter Tryd.func14, Tryd.ntmps14
  go_wp2_with (first | (go_at_call 12; refine (HT.out _).mono ?_; rintro e w1 ⟨rfl, hC⟩) | (go_at_call 44; refine (HCT.out _).mono ?_; rintro e w2 ⟨rfl, hD⟩; have hB2 := hC.trans (hD.below (B := w.heap.size)); clear hC hD))
  go_loopw [9] (fun i wr => ∃ k : Nat, k ≤ L.length ∧ i = .int .i64 k ∧ (L.take k).any f = false ∧ Below w.heap.size w wr) (fun i _ => L.length - (intOf i).toNat)
  case atStart => exact ⟨0, Nat.zero_le _, rfl, rfl, hB2⟩
  case round =>
    obtain ⟨k, hk, rfl, hb, hB⟩ := hrel
    have HB := Lib.hid hb; clear hb
    by_cases hlt : k < L.length
    · obtain ⟨b, off, rfl, hb1, hc1⟩ := C1.out (by omega)
      have x1 : wr.cell? ⟨b, off + k, none⟩ = some (.string (bs L[k])) := by
        rw [hB.cell (p := ⟨b, off + k, none⟩) hb1]; exact hc1 k hlt
      have k0 : (0 : Int) ≤ (k : Int) := by omega
      have k1 : (k : Int) < (L.length : Int) := by omega
      clear hc1
      have HX := Lib.hid (fun h => HA.out.trans (any_yes f L k hlt h))
      have HY := Lib.hid (fun h => any_next f L k hlt h HB.out)
      have hTL := HTK.out L[k]
      have HTk := Lib.hid (HTE.out wr L[k] (HBD.out _ (List.getElem_mem hlt)))
      obtain ⟨is, his⟩ : ∃ is, is = typeOk L[k] := ⟨_, rfl⟩
      obtain ⟨rt, hrt⟩ : ∃ rt, rt = typeOf L[k] := ⟨_, rfl⟩
      rw [← his, ← hrt] at hTL HTk
      clear his hrt
      obtain ⟨RT, hRT⟩ : ∃ RT, RT = bs rt := ⟨_, rfl⟩
      have hRTu : rt = us RT := by rw [hRT, us_bs]
      rw [← hRT] at HTk
      rw [hRTu] at hTL
      clear hRT hRTu
      obtain ⟨fx, hfx⟩ : ∃ fx, fx = f L[k] := ⟨_, rfl⟩
      rw [← hfx] at HX HY hTL
      clear hfx
      rw [← toList_us, ← toList_us, show us FR ++ [47, 42] = (FR ++ ⟨#[47, 42]⟩ : ByteArray).toList from by rw [toList_us, us_append]; rfl] at hTL
      have HTL := Lib.hid hTL
      clear hTL
      have hcase : (ok = false ∧ fx = false) ∨ (ok = true ∧ is = false ∧ fx = false) ∨ (ok = true ∧ is = true ∧ (RT.toList == TY.toList) = true ∧ fx = true) ∨ (ok = true ∧ is = true ∧ (RT.toList == TY.toList) = false ∧ (RT.toList == [42, 47, 42]) = true ∧ fx = true) ∨
          (ok = true ∧ is = true ∧ (RT.toList == TY.toList) = false ∧ (RT.toList == [42, 47, 42]) = false ∧ (RT.toList == (FR ++ ⟨#[47, 42]⟩ : ByteArray).toList) = true ∧ fx = true) ∨ (ok = true ∧ is = true ∧ (RT.toList == TY.toList) = false ∧ (RT.toList == [42, 47, 42]) = false ∧ (RT.toList == (FR ++ ⟨#[47, 42]⟩ : ByteArray).toList) = false ∧ fx = false) := by
        rw [HTL.out]
        cases ok <;> cases is <;> cases (RT.toList == TY.toList) <;> cases (RT.toList == [42, 47, 42]) <;> cases (RT.toList == (FR ++ ⟨#[47, 42]⟩ : ByteArray).toList) <;> decide
      clear HTL
      rcases hcase with ⟨rfl, hfx⟩ | ⟨rfl, rfl, hfx⟩ | ⟨rfl, rfl, e1, hfx⟩ | ⟨rfl, rfl, e1, e2, hfx⟩ | ⟨rfl, rfl, e1, e2, e3, hfx⟩ | ⟨rfl, rfl, e1, e2, e3, hfx⟩
      case inl | inr.inl =>
        all_goals
          have HG := Lib.hid (HY.out hfx)
          clear hfx
          go_wp2_with (go_at_call 12; refine (HTk.out).mono ?_; rintro e w3 ⟨rfl, hC3⟩)
          go_roundw
          case rel => exact ⟨k + 1, by omega, by go_num, HG.out, hB.trans (hC3.mono hB.size)⟩
          case measure => simp [intOf]; omega
      case inr.inr.inr.inr.inr =>
          have HG := Lib.hid (HY.out hfx)
          clear hfx
          have n1 : ¬ RT.toList = TY.toList := by simpa using e1
          have n2 : ¬ RT.toList = [42, 47, 42] := by simpa using e2
          go_wp2_with (go_at_call 12; refine (HTk.out).mono ?_; rintro e w3 ⟨rfl, hC3⟩)
          go_roundw
          case rel => exact ⟨k + 1, by omega, by go_num, HG.out, hB.trans (hC3.mono hB.size)⟩
          case measure => simp [intOf]; omega
      case inr.inr.inl =>
          have HG := Lib.hid (HX.out hfx)
          clear hfx
          have n1 : RT.toList = TY.toList := by simpa using e1
          have N1 := Lib.hid n1
          clear n1
          go_wp2_with (go_at_call 12; refine (HTk.out).mono ?_; rintro e w3 ⟨rfl, hC3⟩)
          all_goals
            go_ret
            exact ⟨ret_bool (by rw [HG.out]), hB.trans (hC3.mono hB.size)⟩
      case inr.inr.inr.inl =>
          have HG := Lib.hid (HX.out hfx)
          clear hfx
          have n1 : ¬ RT.toList = TY.toList := by simpa using e1
          go_wp2_with (go_at_call 12; refine (HTk.out).mono ?_; rintro e w3 ⟨rfl, hC3⟩)
          all_goals
            go_ret
            exact ⟨ret_bool (by rw [HG.out]), hB.trans (hC3.mono hB.size)⟩
      case inr.inr.inr.inr.inl =>
          have HG := Lib.hid (HX.out hfx)
          clear hfx
          have n1 : ¬ RT.toList = TY.toList := by simpa using e1
          have n2 : ¬ RT.toList = [42, 47, 42] := by simpa using e2
          go_wp2_with (go_at_call 12; refine (HTk.out).mono ?_; rintro e w3 ⟨rfl, hC3⟩)
          all_goals
            go_ret
            exact ⟨ret_bool (by rw [HG.out]), hB.trans (hC3.mono hB.size)⟩
    · have hE2 : L.take k = L := List.take_of_length_le (by omega)
      rw [hE2] at HB
      clear hE2
      go_wp2
      go_ret
      exact ⟨ret_bool (by rw [HA.out, HB.out]), hB⟩
end

end Go.Proofs.YteiafgoigfehgaaDoor
