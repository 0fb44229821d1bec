/-
  head.Type, rosterref08.Type.
-/
import Derived.Test.YteiafgoigfehgaaDoorEvent2
namespace Go.Proofs.YteiafgoigfehgaaDoor
open Go.RowKit

/-- a media type without its parameters, and whether it is one -/
def typeOf (l : List UInt8) : List UInt8 := lowr (trim ((parts l 59).headD []))
def typeOk (l : List UInt8) : Bool := (cutb 47 (typeOf l)).2.2 && token (cutb 47 (typeOf l)).1 && token (cutb 47 (typeOf l)).2.1
theorem typeOf_le (l : List UInt8) : (typeOf l).length ≤ l.length := by
  unfold typeOf
  rw [lowr_length]
  refine Nat.le_trans (trim_le _) ?_
  refine parts_bd 59 l _ ?_
  have := parts_ne 59 l
  cases h : parts l 59 with
  | nil => exact absurd h this
  | cons x r => simp

set_option maxHeartbeats 1600000 in
theorem type_c (s : ByteArray) (hs : s.size ≤ 4294967280) (w : World) (hm : Ml w) :
    Calls Tryd.prog 11 #[.string s] w fun e w' => e = .returned (.tuple #[.string (bs (typeOf (us s))), .bool (typeOk (us s))]) ∧ Below w.heap.size w w' := by
  have HM := Lib.hid hm
  clear hm
  have hty := typeOf_le (us s)
  have hcl := cutb_le 47 (typeOf (us s))
  rw [length_us] at hty
  have HB := Lib.hid (fun p hp => Nat.le_trans (parts_bd 59 (us s) p hp) (by rw [length_us]; exact hs))
  have HPC := Lib.hid (fun wx => parts_c s (by omega) 59 wx)
  have hne := parts_ne 59 (us s)
  have HN := Lib.hid (show typeOf (us s) = lowr (trim ((parts (us s) 59).headD [])) from rfl)
  have HCT := Lib.hid (fun wx (hx : Ml wx) => (cut_c (bs (typeOf (us s))) (by rw [size_bs]; omega) 47 wx hx))
  rw [us_bs] at HCT
  have HO := Lib.hid (show typeOk (us s) = ((cutb 47 (typeOf (us s))).2.2 && token (cutb 47 (typeOf (us s))).1 && token (cutb 47 (typeOf (us s))).2.1) from rfl)
  have HT1 := Lib.hid (fun wx => token_c (bs (cutb 47 (typeOf (us s))).1) (by rw [size_bs]; omega) wx)
  have HT2 := Lib.hid (fun wx => token_c (bs (cutb 47 (typeOf (us s))).2.1) (by rw [size_bs]; omega) wx)
  rw [us_bs] at HT1 HT2
  obtain ⟨L, hL⟩ : ∃ L, L = parts (us s) 59 := ⟨_, rfl⟩
  rw [← hL] at HB HPC HN hne
  clear hL
  obtain ⟨x, r, rfl⟩ : ∃ x r, L = x :: r := by cases L with | nil => exact absurd rfl hne | cons x r => exact ⟨x, r, rfl⟩
  clear hne
  have hxl := HB.out x (List.mem_cons_self ..)
  have htl := trim_le x
  have HTR := Lib.hid (fun wx => trim_c (bs x) (by rw [size_bs]; omega) wx)
  rw [us_bs] at HTR
  have HLW := Lib.hid (fun wx => lowerP_c (bs (trim x)) (by rw [size_bs]; omega) wx)
  rw [us_bs, show lowr (trim x) = typeOf (us s) from HN.out.symm] at HLW
  obtain ⟨tx, htx⟩ : ∃ tx, tx = trim x := ⟨_, rfl⟩
  rw [← htx] at HTR HLW
  clear htx hxl htl HN HB
  obtain ⟨ty, hty'⟩ : ∃ ty, ty = typeOf (us s) := ⟨_, rfl⟩
  rw [← hty'] at HLW HCT HO HT1 HT2 ⊢
  clear hty'
  obtain ⟨c, hc⟩ : ∃ c, c = cutb 47 ty := ⟨_, rfl⟩
  rw [← hc] at HCT HO HT1 HT2
  clear hc hcl hty
  obtain ⟨ca, cb, ok⟩ := c
  dsimp only at HCT HO HT1 HT2
  cases ok <;> cases ha : token ca <;> cases hb : token cb
  all_goals
    rw [ha] at HT1 HO; rw [hb] at HT2 HO
    clear ha hb
    go_enter Tryd.func11, Tryd.ntmps11
    go_wp2_with (first | (go_at_call 38; refine (HPC.out _).mono ?_; rintro e w1 ⟨v, rfl, hv, hC⟩; have HV := Lib.hid hv; obtain ⟨ao, cap, rfl, hm1, c1⟩ := hv.form; obtain ⟨b, off, rfl, hb1, hc1⟩ := c1 (by simp); have x0 := hc1 0 (by simp); rw [Nat.add_zero] at x0; have k1 : (0 : Int) < ((x :: r).length : Int) := (by simp); clear hc1 c1; unfold maxLen at hm1) | (go_at_call 37; refine (HTR.out _).mono ?_; rintro e wx ⟨rfl, rfl⟩) | (go_at_call 36; refine (HLW.out _).mono ?_; rintro e w2 ⟨rfl, hC2⟩; have hB2 := hC.trans (hC2.mono hC.size)) | (go_at_call 39; refine (HCT.out _ (HM.out.below hB2)).mono ?_; rintro e w3 ⟨rfl, hD⟩; have hB3 := hB2.trans (hD.below (B := w.heap.size))) | (go_at_call 40; first | ((with_reducible refine (HT1.out _).mono ?_); rintro e wx ⟨rfl, rfl⟩) | ((with_reducible refine (HT2.out _).mono ?_); rintro e wx ⟨rfl, rfl⟩)))
    go_ret2
    exact ⟨by rw [HO.out]; rfl, hB3⟩

set_option maxHeartbeats 1600000 in
theorem typeR_c (s : ByteArray) (hs : s.size ≤ 4294967280) (w : World) :
    Calls Tryd.prog 12 #[.string s] w fun e w' => e = .returned (.tuple #[.string (bs (typeOf (us s))), .bool (typeOk (us s))]) ∧ Below w.heap.size w w' := by
  have hty := typeOf_le (us s)
  have hcl := cutb_le 47 (typeOf (us s))
  rw [length_us] at hty
  have HB := Lib.hid (fun p hp => Nat.le_trans (parts_bd 59 (us s) p hp) (by rw [length_us]; exact hs))
  have HPC := Lib.hid (fun wx => partsR_c s (by omega) 59 wx)
  have hne := parts_ne 59 (us s)
  have HN := Lib.hid (show typeOf (us s) = lowr (trim ((parts (us s) 59).headD [])) from rfl)
  have HCT := Lib.hid (fun wx => (cutR_c (bs (typeOf (us s))) (by rw [size_bs]; omega) 47 wx))
  rw [us_bs] at HCT
  have HO := Lib.hid (show typeOk (us s) = ((cutb 47 (typeOf (us s))).2.2 && token (cutb 47 (typeOf (us s))).1 && token (cutb 47 (typeOf (us s))).2.1) from rfl)
  have HT1 := Lib.hid (fun wx => tokenR_c (bs (cutb 47 (typeOf (us s))).1) (by rw [size_bs]; omega) wx)
  have HT2 := Lib.hid (fun wx => tokenR_c (bs (cutb 47 (typeOf (us s))).2.1) (by rw [size_bs]; omega) wx)
  rw [us_bs] at HT1 HT2
  obtain ⟨L, hL⟩ : ∃ L, L = parts (us s) 59 := ⟨_, rfl⟩
  rw [← hL] at HB HPC HN hne
  clear hL
  obtain ⟨x, r, rfl⟩ : ∃ x r, L = x :: r := by cases L with | nil => exact absurd rfl hne | cons x r => exact ⟨x, r, rfl⟩
  clear hne
  have hxl := HB.out x (List.mem_cons_self ..)
  have htl := trim_le x
  have HTR := Lib.hid (fun wx => trimR_c (bs x) (by rw [size_bs]; omega) wx)
  rw [us_bs] at HTR
  have HLW := Lib.hid (fun wx => lowerR_c (bs (trim x)) (by rw [size_bs]; omega) wx)
  rw [us_bs, show lowr (trim x) = typeOf (us s) from HN.out.symm] at HLW
  obtain ⟨tx, htx⟩ : ∃ tx, tx = trim x := ⟨_, rfl⟩
  rw [← htx] at HTR HLW
  clear htx hxl htl HN HB
  obtain ⟨ty, hty'⟩ : ∃ ty, ty = typeOf (us s) := ⟨_, rfl⟩
  rw [← hty'] at HLW HCT HO HT1 HT2 ⊢
  clear hty'
  obtain ⟨c, hc⟩ : ∃ c, c = cutb 47 ty := ⟨_, rfl⟩
  rw [← hc] at HCT HO HT1 HT2
  clear hc hcl hty
  obtain ⟨ca, cb, ok⟩ := c
  dsimp only at HCT HO HT1 HT2
  cases ok <;> cases ha : token ca <;> cases hb : token cb
  all_goals
    rw [ha] at HT1 HO; rw [hb] at HT2 HO
    clear ha hb
    go_enter Tryd.func12, Tryd.ntmps12
    go_wp2_with (first | (go_at_call 43; refine (HPC.out _).mono ?_; rintro e w1 ⟨v, rfl, hv, hC⟩; have HV := Lib.hid hv; obtain ⟨ao, cap, rfl, hm1, c1⟩ := hv.form; obtain ⟨b, off, rfl, hb1, hc1⟩ := c1 (by simp); have x0 := hc1 0 (by simp); rw [Nat.add_zero] at x0; have k1 : (0 : Int) < ((x :: r).length : Int) := (by simp); clear hc1 c1; unfold maxLen at hm1) | (go_at_call 42; refine (HTR.out _).mono ?_; rintro e wx ⟨rfl, rfl⟩) | (go_at_call 41; refine (HLW.out _).mono ?_; rintro e w2 ⟨rfl, hC2⟩; have hB2 := hC.trans (hC2.mono hC.size)) | (go_at_call 44; refine (HCT.out _).mono ?_; rintro e w3 ⟨rfl, hD⟩; have hB3 := hB2.trans (hD.below (B := w.heap.size))) | (go_at_call 45; first | ((with_reducible refine (HT1.out _).mono ?_); rintro e wx ⟨rfl, rfl⟩) | ((with_reducible refine (HT2.out _).mono ?_); rintro e wx ⟨rfl, rfl⟩)))
    go_ret2
    exact ⟨by rw [HO.out]; rfl, hB3⟩

end Go.Proofs.YteiafgoigfehgaaDoor
