/-
  rosterlaw08.awake.
-/
import Derived.Test.YteiafgoigfehgaaDoorSqs
import Derived.Test.YteiafgoigfehgaaDoorSta
import Derived.Test.YteiafgoigfehgaaDoorTyp
namespace Go.Proofs.YteiafgoigfehgaaDoor
open Go.RowKit

def kSeq : ByteArray := ⟨#[48, 48, 55, 32, 88]⟩
def kEv : ByteArray := ⟨#[112, 114, 101, 115, 101, 110, 99, 101, 59, 105, 100, 61, 49]⟩
def kSt : ByteArray := ⟨#[65, 99, 116, 105, 118, 101, 32, 59, 101, 120, 112, 105, 114, 101, 115, 61, 54, 48]⟩
theorem kSeq_is : seqP (us kSeq) = (7, [88], 0) := by decide +kernel
theorem kEv_is : evS (us kEv) = (([112, 114, 101, 115, 101, 110, 99, 101], [⟨[105, 100], [49], true⟩]), 0) := by decide +kernel
theorem kSt_is : stS (us kSt) = (([97, 99, 116, 105, 118, 101], 60, []), 0) := by decide +kernel
def kA : ByteArray := ⟨#[116, 101, 120, 116, 47, 112, 108, 97, 105, 110]⟩
def kB : ByteArray := ⟨#[97, 112, 112, 108, 105, 99, 97, 116, 105, 111, 110, 47, 42]⟩
def kT : ByteArray := ⟨#[97, 112, 112, 108, 105, 99, 97, 116, 105, 111, 110, 47, 112, 105, 100, 102, 43, 120, 109, 108, 59, 32, 99, 104, 97, 114, 115, 101, 116, 61, 120]⟩
theorem kAcc : acceptsS [us kA, us kB] (us kT) = true := by decide +kernel
/-- a row of two strings that a call has just laid -/
theorem RStrs.two (w : World) (A B : ByteArray) (t : TypeId) : RStrs (w.alloc (.cells #[.string A, .string B] t)) (.slice (some ⟨w.heap.size, 0, none⟩) 2 2) [us A, us B] := by
  refine .inr ⟨w.heap.size, 0, 2, rfl, Nat.le_refl _, by unfold maxLen; omega, by rw [World.size_alloc]; exact Nat.lt_succ_self _, fun j u hj => ?_⟩
  rw [World.cell?_alloc_at _ _ _ _ rfl]
  simpa [sv] using hj

set_option maxHeartbeats 3200000 in
theorem awake_c (w : World) (hm : Ml w) : Calls Tryd.prog 15 #[] w fun e w' => e = .returned (.bool true) ∧ Below w.heap.size w w' := by
  have HM := Lib.hid hm
  clear hm
  have HS := Lib.hid (fun wx hx => seq_c kSeq (by decide) wx hx)
  rw [kSeq_is] at HS
  have HE := Lib.hid (fun wx hx => event_c kEv (by decide) wx hx)
  have HT := Lib.hid (fun wx hx => state_c kSt (by decide) wx hx)
  unfold SeqPost at HS
  unfold EvPost at HE
  rw [kEv_is] at HE
  unfold StPost stV at HT
  rw [kSt_is] at HT
  dsimp only at HS HE HT
  unfold kSeq at HS
  unfold kEv at HE
  unfold kSt at HT
  have HA := Lib.hid (fun wx v hx hv => accepts_c v [us kA, us kB] kT (by decide) wx hx hv (by intro x hx; simp only [List.mem_cons, List.not_mem_nil, or_false] at hx; rcases hx with rfl | rfl <;> decide))
  rw [kAcc] at HA
  unfold kA kB kT at HA
  go_enter Tryd.func15, Tryd.ntmps15
  go_wp2_with (first | (go_at_call 22; refine (HS.out _ HM.out).mono ?_; rintro e w1 ⟨rfl, hB1⟩) | (go_at_call 29; refine (HE.out _ (HM.out.below hB1)).mono ?_; rintro e w2 ⟨u, rfl, hu, _, hC2⟩; have hB2 := hB1.trans (hC2.mono hB1.size); obtain ⟨ao, cp, rfl, hml, hcl⟩ := hu.form; clear hu hcl) | (go_at_call 18; refine (HT.out _ ((HM.out.below hB2).below ((Below.refl _ _).alloc (Nat.le_refl _) _))).mono ?_; rintro e w3 ⟨rfl, hC3⟩; obtain ⟨hbk, hB3', hz3⟩ := newCall hC3; obtain ⟨a0, a1, _, _, _⟩ := hbk.f2; have hB3 := hB2.trans (hB3'.mono hB2.size); clear hbk))
  go_at_call 13
  have hR := RStrs.two (w3.alloc (.cells #[.string (bs [97, 99, 116, 105, 118, 101]), .int .i64 60, .string (bs [])] 34)) ⟨#[116, 101, 120, 116, 47, 112, 108, 97, 105, 110]⟩ ⟨#[97, 112, 112, 108, 105, 99, 97, 116, 105, 111, 110, 47, 42]⟩ 9
  rw [World.size_alloc] at hR
  have hBx : Below w.heap.size w ((w3.alloc (.cells #[.string (bs [97, 99, 116, 105, 118, 101]), .int .i64 60, .string (bs [])] 34)).alloc (.cells #[.string ⟨#[116, 101, 120, 116, 47, 112, 108, 97, 105, 110]⟩, .string ⟨#[97, 112, 112, 108, 105, 99, 97, 116, 105, 111, 110, 47, 42]⟩] 9)) :=
    (hB3.alloc hB3.size _).alloc (by rw [World.size_alloc]; have := hB3.size; omega) _
  refine (HA.out _ _ (HM.out.below hBx) hR).mono ?_
  rintro e w4 ⟨rfl, hC4⟩
  have hB4 := hBx.trans (hC4.mono hBx.size)
  go_wp2
  go_ret
  exact ⟨rfl, hB4⟩

end Go.Proofs.YteiafgoigfehgaaDoor
