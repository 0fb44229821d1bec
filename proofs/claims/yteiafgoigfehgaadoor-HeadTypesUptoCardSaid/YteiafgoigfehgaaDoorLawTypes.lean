/-
  The law HeadTypes: the walk.
-/
import Derived.Test.YteiafgoigfehgaaDoorAwake8
namespace Go.Proofs.YteiafgoigfehgaaDoor
open Go.RowKit

set_option maxHeartbeats 3200000 in
theorem headTypes_walk (v : Value) (L : List (List UInt8)) (s : ByteArray) (hs : s.size ≤ 1048576) (w : World) (hm : Ml w) (hv : RStrs w v L) (hbd : ∀ x ∈ L, x.length ≤ 1048576) :
    Calls Tryd.prog 3 #[v, .string s] w fun e w' => e = .returned (.bool true) ∧ Below w.heap.size w w' := by
  have HM := Lib.hid hm
  have HV := Lib.hid hv
  have HBD := Lib.hid (fun x hx => show x.length ≤ 4294967280 from Nat.le_trans (hbd x hx) (by decide))
  obtain ⟨ao, cap, rfl, _, _⟩ := hv.form
  clear hm hv hbd
  have HT := Lib.hid (fun wx hx => type_c s (by omega) wx hx)
  have HTR := Lib.hid (fun wx => typeR_c s (by omega) wx)
  obtain ⟨ty, hty⟩ : ∃ ty, ty = bs (typeOf (us s)) := ⟨_, rfl⟩
  obtain ⟨ok, hok⟩ : ∃ ok, ok = typeOk (us s) := ⟨_, rfl⟩
  rw [← hty, ← hok] at HT HTR
  clear hty hok
  have HA := Lib.hid (fun wx hx hv => accepts_c (.slice ao L.length cap) L s (by omega) wx hx hv HBD.out)
  have HAR := Lib.hid (fun wx hv => acceptsR_c (.slice ao L.length cap) L s (by omega) wx hv HBD.out)
  obtain ⟨ac, hac⟩ : ∃ ac, ac = acceptsS L (us s) := ⟨_, rfl⟩
  rw [← hac] at HA HAR
  clear hac
  have HW := Lib.hid (fun wx hx => awake_c wx hx)
  cases ok <;> cases ac
  all_goals
    go_enter Tryd.func3, Tryd.ntmps3
    go_wp2_with (first | (go_at_call 11; refine (HT.out _ HM.out).mono ?_; rintro e w1 ⟨rfl, hB1⟩) | (go_at_call 12; refine (HTR.out _).mono ?_; rintro e w2 ⟨rfl, hC2⟩; have hB2 := hB1.trans (hC2.mono hB1.size); clear hC2) | (go_at_call 13; refine (HA.out _ (HM.out.below hB2) (HV.out.below hB2 (Nat.le_refl _))).mono ?_; rintro e w3 ⟨rfl, hC3⟩; have hB3 := hB2.trans (hC3.mono hB2.size); clear hC3) | (go_at_call 14; refine (HAR.out _ (HV.out.below hB3 (Nat.le_refl _))).mono ?_; rintro e w4 ⟨rfl, hC4⟩; have hB4 := hB3.trans (hC4.mono hB3.size); clear hC4) | (go_at_call 15; refine (HW.out _ (HM.out.below hB4)).mono ?_; rintro e w5 ⟨rfl, hC5⟩; have hB5 := hB4.trans (hC5.mono hB4.size); clear hC5))
    go_ret
    exact ⟨rfl, hB5⟩

end Go.Proofs.YteiafgoigfehgaaDoor
