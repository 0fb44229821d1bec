/-
  rosterref03.Split, rosterref03.Host.
-/
import Derived.Test.YteiafgoigfehgaaDoorHostB
namespace Go.Proofs.YteiafgoigfehgaaDoor
open Go.RowKit

theorem cutb_len (c : UInt8) : ∀ l : List UInt8, (cutb c l).2.2 = true → (cutb c l).1.length + (cutb c l).2.1.length + 1 = l.length
  | [], h => by cases h
  | x :: r, h => by
    by_cases hx : x.toNat = c.toNat
    · rw [cutb, if_pos hx]; simp
    · rw [cutb, if_neg hx] at h ⊢
      have := cutb_len c r h
      simp; omega
theorem cutb_le (c : UInt8) : ∀ l : List UInt8, (cutb c l).1.length ≤ l.length ∧ (cutb c l).2.1.length ≤ l.length
  | [] => ⟨Nat.le_refl _, Nat.le_refl _⟩
  | x :: r => by
    by_cases hx : x.toNat = c.toNat
    · rw [cutb, if_pos hx]; simp
    · rw [cutb, if_neg hx]
      have := cutb_le c r
      simp; omega
theorem splitc_len (c : UInt8) : ∀ l : List UInt8, (splitc c l).length ≤ l.length + 1
  | [] => Nat.le_refl _
  | x :: r => by
    have := splitc_len c r
    have h1 : 1 ≤ (splitc c r).length := by rw [splitc_cut]; simp
    rw [splitc]; split <;> simp <;> omega
/-- what is left to split -/
def more (c : UInt8) (l : List UInt8) (m : Bool) : List (List UInt8) := if m = true then splitc c l else []
def moreN (s m : Value) : Nat := match s, m with | .string x, .bool true => x.size + 1 | _, _ => 0

set_option maxHeartbeats 800000 in
theorem splitR_c (s : ByteArray) (hs : s.size ≤ 4294967280) (c : UInt8) (w : World) :
    Calls Tryd.prog 101 #[.string s, .int .u8 c.toNat] w fun e w' => ∃ v, e = .returned v ∧ RStrs w' v (splitc c (us s)) ∧ Below w.heap.size w w' := by
  have hlen := splitc_len c (us s)
  rw [length_us] at hlen
  go_enter Tryd.func101, Tryd.ntmps101
  go_wp2
  go_loopw [0, 5, 6] (fun t v m wr => ∃ (r : ByteArray) (b : Bool) (L : List (List UInt8)), r.size ≤ s.size ∧ t = .string r ∧ m = .bool b ∧ Strs wr w.heap.size 9 v L ∧ splitc c (us s) = L ++ more c (us r) b ∧ Below w.heap.size w wr) (fun t _ m _ => moreN t m)
  case atStart => exact ⟨s, true, [], Nat.le_refl _, rfl, rfl, Strs.nil _ _ _, rfl, Below.refl _ _⟩
  case round =>
    obtain ⟨r, b, L, hr, rfl, rfl, hown, hp, hB⟩ := hrel
    have HO := Lib.hid hown; clear hown
    cases b with
    | false =>
      have HP := Lib.hid (show splitc c (us s) = L by rw [hp]; simp [more])
      clear hp
      go_wp2
      go_ret
      exact ⟨_, rfl, HP.out ▸ HO.out.read, hB⟩
    | true =>
      have hsp : splitc c (us s) = (L ++ [(cutb c (us r)).1]) ++ more c (cutb c (us r)).2.1 (cutb c (us r)).2.2 := by
        rw [hp]; unfold more; rw [if_pos rfl, splitc_cut]; simp
      have hl : (L.length + 1) * 16 ≤ 140737488355328 := by
        have := congrArg List.length hsp
        rw [List.length_append, List.length_append] at this
        simp at this
        omega
      have HCT := Lib.hid (fun wx => cutR_c r (by omega) c wx)
      have hc1 := (cutb_le c (us r)).2
      have hc2 := cutb_len c (us r)
      rw [length_us] at hc1 hc2
      have HC2 := Lib.hid hc2
      clear hp hc2
      obtain ⟨p, hpp⟩ : ∃ p, p = cutb c (us r) := ⟨_, rfl⟩
      rw [← hpp] at hsp HCT hc1 HC2
      clear hpp
      obtain ⟨a, q, m⟩ := p
      have HS := Lib.hid hsp
      clear hsp
      have HB := Lib.hid hB
      clear hB
      go_wp2_with (first | (go_at_call 44; refine (HCT.out _).mono ?_; rintro e w1 ⟨rfl, hD⟩; have ho1 := HO.out.below (hD.below (B := wr.heap.size)) (Nat.le_refl _); have hb1 := HB.out.trans (hD.below (B := w.heap.size))) | (at_builtin; refine wpList_appS1 a (us_bs _) rfl rfl Tryd.underlying22 infoS rfl rfl ho1 hb1 (Nat.le_refl _) ?_ ?_; (focus omega); intro v2 w2 ho2 hb2))
      go_roundw
      case rel => exact ⟨bs q, m, L ++ [a], by rw [size_bs]; omega, rfl, rfl, ho2, by rw [us_bs]; exact HS.out, hb2⟩
      case measure =>
        have := HC2.out
        cases m
        · simp [moreN]
        · have h2 := this rfl
          simp [moreN, size_bs] at h2 ⊢; omega

end Go.Proofs.YteiafgoigfehgaaDoor
