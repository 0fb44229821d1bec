/-
  head.State.
-/
import Derived.Test.YteiafgoigfehgaaDoorEvent2
import Derived.Test.YteiafgoigfehgaaDoorHeadA
import Derived.Test.YteiafgoigfehgaaDoorBlk
namespace Go.Proofs.YteiafgoigfehgaaDoor
open Go.RowKit

def sReason : List UInt8 := [114, 101, 97, 115, 111, 110]
def sExpires : List UInt8 := [101, 120, 112, 105, 114, 101, 115]
/-- a state, out of the pieces of a text -/
def stOf (ok : Bool) (lo r : List UInt8) (t : List UInt8 × Bool) : (List UInt8 × Int × List UInt8) × Int :=
  if ok = false then (([], 0, []), 82) else if r ≠ [] ∧ token r = false then (([], 0, []), 82) else if t.2 = false then ((lo, -1, r), 0) else if (timeS t.1).2 ≠ 0 then (([], 0, []), 82) else ((lo, (timeS t.1).1, r), 0)
def stS (l : List UInt8) : (List UInt8 × Int × List UInt8) × Int := stOf (okP l) (lowr (nameP l)) (value (fieldsP l).1 sReason).1 (value (fieldsP l).1 sExpires)
def stV (p : List UInt8 × Int × List UInt8) : Value := .agg #[.string (bs p.1), .int .i64 p.2.1, .string (bs p.2.2)]
def StPost (l : List UInt8) (w : World) (e : Ending) (w' : World) : Prop := e = .returned (.tuple #[stV (stS l).1, .int .i64 (stS l).2]) ∧ Below w.heap.size w w'

/-- the ways through head.State -/
theorem st_cases (ok : Bool) (lo : List UInt8) (R : ByteArray) (t : List UInt8 × Bool) :
    (ok = false ∧ stOf ok lo (us R) t = (([], 0, []), 82)) ∨
    (ok = true ∧ ¬ R.size = 0 ∧ token (us R) = false ∧ stOf ok lo (us R) t = (([], 0, []), 82)) ∨
    (ok = true ∧ (R.size = 0 ∨ (¬ R.size = 0 ∧ token (us R) = true)) ∧
      ((t.2 = false ∧ stOf ok lo (us R) t = ((lo, -1, us R), 0)) ∨ (t.2 = true ∧ ((timeS t.1).2 != 0) = true ∧ stOf ok lo (us R) t = (([], 0, []), 82)) ∨ (t.2 = true ∧ ((timeS t.1).2 != 0) = false ∧ stOf ok lo (us R) t = ((lo, (timeS t.1).1, us R), 0)))) := by
  have hn : us R = [] ↔ R.size = 0 := by rw [← length_us, List.length_eq_zero_iff]
  cases ok
  · exact .inl ⟨rfl, by unfold stOf; rw [if_pos rfl]⟩
  refine .inr ?_
  by_cases hb : us R ≠ [] ∧ token (us R) = false
  · exact .inl ⟨rfl, fun e => hb.1 (hn.2 e), hb.2, by unfold stOf; rw [if_neg (by decide), if_pos hb]⟩
  refine .inr ⟨rfl, ?_, ?_⟩
  · by_cases hz : R.size = 0
    · exact .inl hz
    · refine .inr ⟨hz, ?_⟩
      cases h : token (us R)
      · exact absurd ⟨fun e => hz (hn.1 e), h⟩ hb
      · rfl
  · unfold stOf
    rw [if_neg (by decide), if_neg hb]
    cases h2 : t.2
    · exact .inl ⟨rfl, if_pos rfl⟩
    · refine .inr ?_
      rw [if_neg (by decide)]
      cases hq : ((timeS t.1).2 != 0)
      · exact .inr ⟨rfl, rfl, if_neg (by simpa using hq)⟩
      · exact .inl ⟨rfl, rfl, if_pos (by simpa using hq)⟩
theorem value_len (L : List Prm) (name : List UInt8) (B : Nat) (h : ∀ p ∈ L, p.value.length ≤ B) : (value L name).1.length ≤ B := by
  rcases place_value name L 0 with ⟨_, h2⟩ | ⟨j, hj, _, h2⟩
  · rw [show value L name = _ from h2]; exact Nat.zero_le _
  · rw [show value L name = _ from h2]; exact h _ (List.getElem_mem hj)
theorem fieldsGo_bd : ∀ (Ps : List (List UInt8)) (L M : List Prm), (∀ p ∈ L, p.name.length ≤ 64 ∧ p.value.length ≤ 64) → fieldsGo L Ps = some M → ∀ p ∈ M, p.name.length ≤ 64 ∧ p.value.length ≤ 64
  | [], L, M, hL, h => by rw [fieldsGo] at h; injection h with h; rw [← h]; exact hL
  | x :: r, L, M, hL, h => by
    rw [fieldsGo] at h
    cases hf : field L x with
    | none => rw [hf] at h; cases h
    | some q =>
      rw [hf] at h
      refine fieldsGo_bd r (L ++ [q]) M ?_ h
      intro p hp
      rcases List.mem_append.1 hp with h' | h'
      · exact hL p h'
      · rw [List.mem_singleton.1 h']
        unfold field fieldOf at hf
        split at hf
        · split at hf
          · have := chk_len hf; rw [this.1]; exact this.2
          · cases hf
        · split at hf
          · cases hf
          · have := chk_len hf; rw [this.1]; exact this.2
theorem fieldsS_bd (Ps : List (List UInt8)) : ∀ p ∈ (fieldsS Ps).1, p.name.length ≤ 64 ∧ p.value.length ≤ 64 := by
  unfold fieldsS
  split
  · intro p hp; cases hp
  · cases h : fieldsGo [] Ps with
    | none => intro p hp; cases hp
    | some M => exact fieldsGo_bd Ps [] M (fun p hp => by cases hp) h
theorem nameP_le (l : List UInt8) : (nameP l).length ≤ l.length := by
  unfold nameP
  refine Nat.le_trans (trim_le _) ?_
  refine parts_bd 59 l _ ?_
  have := parts_ne 59 l
  cases h : parts l 59 with
  | nil => exact absurd h this
  | cons x r => simp

end Go.Proofs.YteiafgoigfehgaaDoor
