/-
  rosterref03.Cut.
-/
import Derived.Test.YteiafgoigfehgaaDoorRow2
import Derived.OwnWalk
import Derived.Deep.QuietTactic
import Derived.BigQuiet
import Derived.Test.YteiafgoigfehgaaDoorScanL
namespace Go.Proofs.YteiafgoigfehgaaDoor
open Go.RowKit

/-- what stands ahead of the first sign, behind it, and whether there is one -/
def cutb (c : UInt8) : List UInt8 → List UInt8 × List UInt8 × Bool
  | [] => ([], [], false)
  | x :: r => if x.toNat = c.toNat then ([], r, true) else (x :: (cutb c r).1, (cutb c r).2.1, (cutb c r).2.2)
theorem cutb_yes (c x : UInt8) (r : List UInt8) (h : x.toNat = c.toNat) : cutb c (x :: r) = ([], r, true) := by rw [cutb, if_pos h]
theorem cutb_no (c x : UInt8) (r : List UInt8) (h : ¬ x.toNat = c.toNat) : cutb c (x :: r) = (x :: (cutb c r).1, (cutb c r).2.1, (cutb c r).2.2) := by rw [cutb, if_neg h]
def ahead (xs : List UInt8) (p : List UInt8 × List UInt8 × Bool) : List UInt8 × List UInt8 × Bool := (xs ++ p.1, p.2.1, p.2.2)
theorem cut_step (s : ByteArray) (c : UInt8) (k : Nat) (h : k < s.size) (hn : ¬ s[k].toNat = c.toNat) (hp : cutb c (us s) = ahead ((us s).take k) (cutb c ((us s).drop k))) :
    cutb c (us s) = ahead ((us s).take (k + 1)) (cutb c ((us s).drop (k + 1))) := by
  rw [hp, drop_us s k h, cutb_no c _ _ hn, take_us s k h]; unfold ahead; simp
theorem cut_found (s : ByteArray) (c : UInt8) (k : Nat) (h : k < s.size) (hn : s[k].toNat = c.toNat) (hp : cutb c (us s) = ahead ((us s).take k) (cutb c ((us s).drop k))) :
    cutb c (us s) = ((us s).take k, (us s).drop (k + 1), true) := by
  rw [hp, drop_us s k h, cutb_yes c _ _ hn]; unfold ahead; simp
theorem cut_end (s : ByteArray) (c : UInt8) (k : Nat) (h : s.size ≤ k) (hp : cutb c (us s) = ahead ((us s).take k) (cutb c ((us s).drop k))) :
    cutb c (us s) = (us s, [], false) := by
  rw [hp, drop_us_end s k h, take_all s k h]; unfold ahead cutb; simp
theorem ret_cut {a b : ByteArray} {o : Bool} {p : List UInt8 × List UInt8 × Bool} (h : p = (us a, us b, o)) :
    Ending.returned (.tuple #[.string a, .string b, .bool o]) = .returned (.tuple #[.string (bs p.1), .string (bs p.2.1), .bool p.2.2]) := by rw [h]; simp

theorem cutR_c (s : ByteArray) (hs : s.size ≤ 9223372036854775807) (c : UInt8) (w : World) :
    Calls Tryd.prog 44 #[.string s, .int .u8 c.toNat] w fun e w' => e = .returned (.tuple #[.string (bs (cutb c (us s)).1), .string (bs (cutb c (us s)).2.1), .bool (cutb c (us s)).2.2]) ∧ Drn w w' := by
  go_enter Tryd.func44, Tryd.ntmps44
  go_wp2
  go_loopw [7] (fun i wr => ∃ k : Nat, k ≤ s.size ∧ i = .int .i64 k ∧ cutb c (us s) = ahead ((us s).take k) (cutb c ((us s).drop k)) ∧ Drn w wr) (fun i _ => s.size - (intOf i).toNat)
  case atStart => exact ⟨0, Nat.zero_le _, rfl, rfl, Drn.refl _⟩
  case round =>
    obtain ⟨k, hk, rfl, hp, hD⟩ := hrel
    have HP := Lib.hid hp; clear hp
    by_cases hlt : k < s.size
    · by_cases h : s[k].toNat = c.toNat
      · have HF := Lib.hid (cut_found s c k hlt h HP.out)
        have t1 : ((s[k].toNat : Int) == (c.toNat : Int)) = true := by simp; omega
        have H := Lib.hid h
        clear h
        have w1 : IntKind.i64.wrap ((k : Int) + 1) = (k : Int) + 1 := IntWalk.i64_in _ (by omega)
        have e1 : ((k : Int) + 1).toNat = k + 1 := by omega
        have q1 : (0 : Int) ≤ (k : Int) := by omega
        have q2 : (k : Int) ≤ (s.size : Int) := by omega
        have q3 : (k : Int) + 1 ≤ (s.size : Int) := by omega
        go_wp2
        go_quiet (fail)
        go_wp2
        go_ret3
        exact ⟨ret_cut (by rw [HF.out, us_extract, us_tail]; simp), hD.step _⟩
      · have HN := Lib.hid (cut_step s c k hlt h HP.out)
        have t1 : ((s[k].toNat : Int) == (c.toNat : Int)) = false := by simp; omega
        clear h
        go_wp2
        go_roundw
        case rel => exact ⟨k + 1, by omega, by go_num, HN.out, hD⟩
        case measure => simp [intOf]; omega
    · have HE := Lib.hid (cut_end s c k (by omega) HP.out)
      go_wp2
      go_ret3
      exact ⟨ret_cut (by rw [HE.out]; rfl), hD⟩

end Go.Proofs.YteiafgoigfehgaaDoor
