/-
  The library's strings.Cut, HasPrefix, Split, ReplaceAll in the words of this proof (a sign of one byte).
-/
import Derived.Test.YteiafgoigfehgaaDoorCut
import Derived.Test.YteiafgoigfehgaaDoorShelf
import Derived.Test.YteiafgoigfehgaaDoorPureA
namespace Go.Proofs.YteiafgoigfehgaaDoor
open Go.RowKit

/-- what internal/bytealg.MaxLen holds is some int -/
def Ml (w : World) : Prop := ∃ m, w.cell? ⟨0, 0, none⟩ = some (.int .i64 m)
theorem cell_lt {w : World} {g o : Nat} {v : Value} (h : w.cell? ⟨g, o, none⟩ = some v) : g < w.heap.size := by
  rcases Nat.lt_or_ge g w.heap.size with hlt | hge
  · exact hlt
  · simp [World.cell?, Array.getElem?_eq_none hge] at h
theorem Ml.below {w w' : World} (h : Ml w) (hB : Below w.heap.size w w') : Ml w' := by
  obtain ⟨m, hm⟩ := h
  exact ⟨m, (hB.cell (p := ⟨0, 0, none⟩) (cell_lt hm)).trans hm⟩
theorem Ml.drewN {w : World} (h : Ml w) (n : Nat) : Ml (w.drewN n) := h.below (Drn.below ⟨n, rfl⟩)

theorem idx_cons (c b : UInt8) (l : List UInt8) : Lib.index (b :: l) [c] = if b.toNat = c.toNat then 0 else if Lib.index l [c] == -1 then -1 else Lib.index l [c] + 1 := by
  rw [Lib.index]
  have : ([c].isPrefixOf (b :: l) = true) ↔ b.toNat = c.toNat := by
    simp only [List.isPrefixOf, Bool.and_true, beq_iff_eq]
    constructor
    · intro h; rw [h]
    · intro h; exact (UInt8.toNat_inj.1 h).symm
  by_cases h : b.toNat = c.toNat
  · rw [if_pos h, if_pos (this.2 h)]
  · rw [if_neg h, if_neg (fun e => h (this.1 e))]
theorem idx_cut (c : UInt8) : ∀ l : List UInt8, (Lib.index l [c] = -1 ∧ cutb c l = (l, [], false)) ∨ (∃ i : Nat, Lib.index l [c] = i ∧ i < l.length ∧ cutb c l = (l.take i, l.drop (i + 1), true))
  | [] => .inl ⟨rfl, rfl⟩
  | b :: l => by
    rw [idx_cons]
    by_cases h : b.toNat = c.toNat
    · refine .inr ⟨0, by rw [if_pos h]; rfl, by simp, by rw [cutb, if_pos h]; rfl⟩
    · rw [if_neg h, cutb, if_neg h]
      rcases idx_cut c l with ⟨h1, h2⟩ | ⟨i, h1, h2, h3⟩
      · exact .inl ⟨by rw [h1]; rfl, by rw [h2]⟩
      · refine .inr ⟨i + 1, ?_, by simp; omega, by rw [h3]; rfl⟩
        have hn : (((i : Nat) : Int) == -1) = false := by rw [beq_eq_false_iff_ne]; omega
        rw [h1, hn, if_neg (by decide)]
        omega
theorem lib_cut (c : UInt8) (l : List UInt8) : Lib.cut l [c] = cutb c l := by
  unfold Lib.cut
  rcases idx_cut c l with ⟨h1, h2⟩ | ⟨i, h1, _, h3⟩
  · rw [h1, if_neg (by decide), h2]
  · rw [h1, if_pos (by omega), h3]; rfl

/-- the parts between any two signs -/
def splitc (c : UInt8) : List UInt8 → List (List UInt8)
  | [] => [[]]
  | x :: r => if x.toNat = c.toNat then [] :: splitc c r else (x :: (splitc c r).headD []) :: (splitc c r).tail
theorem splitc_cut (c : UInt8) : ∀ l : List UInt8, splitc c l = (cutb c l).1 :: (if (cutb c l).2.2 = true then splitc c (cutb c l).2.1 else [])
  | [] => rfl
  | x :: r => by
    by_cases h : x.toNat = c.toNat
    · rw [splitc, if_pos h, cutb, if_pos h]; rfl
    · rw [splitc, if_neg h, cutb, if_neg h, splitc_cut c r]; rfl
theorem lib_split (c : UInt8) : ∀ (k : Nat) (l : List UInt8), Lib.count l [c] = k → Lib.splitK [c] 0 k l = splitc c l
  | 0, l, hk => by
    rcases idx_cut c l with ⟨_, h2⟩ | ⟨i, h1, _, _⟩
    · rw [splitc_cut, h2]; rfl
    · have := Lib.count_hit (s := l) (sub := [c]) (by simp) h1; omega
  | k + 1, l, hk => by
    rcases idx_cut c l with ⟨h1, _⟩ | ⟨i, h1, _, h3⟩
    · have := Lib.count_miss h1; omega
    · have hc := Lib.count_hit (s := l) (sub := [c]) (by simp) h1
      rw [splitc_cut, h3]
      have hn : ¬ ((((i : Nat) : Int) == -1) = true) := by rw [beq_iff_eq]; omega
      rw [Lib.splitK, h1, if_neg hn]
      have e1 : ((i : Nat) : Int).toNat = i := by omega
      rw [e1, if_pos rfl]
      show l.take (i + 0) :: _ = _
      rw [Nat.add_zero]
      congr 1
      exact lib_split c k _ (by have : (l.drop (i + [c].length)) = l.drop (i + 1) := rfl; rw [this] at hc; show Lib.count (l.drop (i + 1)) [c] = k; omega)

/-- a sign for another one -/
def swapb (a b : UInt8) (l : List UInt8) : List UInt8 := l.map fun x => if x.toNat = a.toNat then b else x
theorem swapb_no (a b : UInt8) : ∀ l : List UInt8, cutb a l = (l, [], false) → swapb a b l = l
  | [], _ => rfl
  | x :: r, h => by
    by_cases hx : x.toNat = a.toNat
    · rw [cutb, if_pos hx] at h; cases h
    · rw [cutb, if_neg hx] at h
      injection h with h1 h2
      injection h1 with _ h1
      injection h2 with h2 h3
      have ih := swapb_no a b r (by rw [← h1] at *; exact Prod.ext h1 (Prod.ext h2 h3))
      unfold swapb at ih ⊢
      rw [List.map_cons, if_neg hx, ih]
theorem swapb_yes (a b : UInt8) : ∀ (l : List UInt8) (i : Nat), i < l.length → cutb a l = (l.take i, l.drop (i + 1), true) → swapb a b l = l.take i ++ (b :: swapb a b (l.drop (i + 1)))
  | [], _, h, _ => by simp at h
  | x :: r, i, hi, h => by
    by_cases hx : x.toNat = a.toNat
    · rw [cutb, if_pos hx] at h
      have : i = 0 := by
        rcases i with _ | i
        · rfl
        · injection h with h1 _; cases h1
      subst this
      show (x :: r).map _ = _
      rw [List.map_cons, if_pos hx]; rfl
    · rw [cutb, if_neg hx] at h
      rcases i with _ | i
      · injection h with h1 _; cases h1
      · injection h with h1 h2
        injection h1 with _ h1
        injection h2 with h2 h3
        have ih := swapb_yes a b r i (by simpa using hi) (Prod.ext h1 (Prod.ext h2 h3))
        show (x :: r).map _ = _
        rw [List.map_cons, if_neg hx]
        show x :: swapb a b r = _
        rw [ih]; rfl
theorem lib_replaceK (a b : UInt8) : ∀ (k : Nat) (l : List UInt8), Lib.count l [a] = k → Lib.replaceK [a] [b] k l = swapb a b l
  | 0, l, hk => by
    rcases idx_cut a l with ⟨_, h2⟩ | ⟨i, h1, _, _⟩
    · rw [swapb_no a b l h2]; rfl
    · have := Lib.count_hit (s := l) (sub := [a]) (by simp) h1; omega
  | k + 1, l, hk => by
    rcases idx_cut a l with ⟨h1, _⟩ | ⟨i, h1, hi, h3⟩
    · have := Lib.count_miss h1; omega
    · have hc := Lib.count_hit (s := l) (sub := [a]) (by simp) h1
      rw [Lib.replaceK_hit _ _ _ _ _ h1, swapb_yes a b l i hi h3]
      have e : l.drop (i + [a].length) = l.drop (i + 1) := rfl
      rw [e] at hc ⊢
      rw [lib_replaceK a b k _ (by omega)]; simp
theorem lib_replace (a b : UInt8) (h : a ≠ b) (l : List UInt8) : Lib.replaceAll l [a] [b] = swapb a b l := by
  unfold Lib.replaceAll Lib.replace Lib.replaceNum
  rw [if_neg (by simpa using h), if_pos (.inl (by decide))]
  exact lib_replaceK a b _ l rfl
theorem swapb_len (a b : UInt8) (l : List UInt8) : (swapb a b l).length = l.length := List.length_map ..
theorem one_data (c : UInt8) : (⟨#[c]⟩ : ByteArray).data.toList = [c] := rfl

theorem cut_c (s : ByteArray) (hs : s.size < 4294967281) (c : UInt8) (w : World) (hm : Ml w) :
    Calls Tryd.prog 39 #[.string s, .string ⟨#[c]⟩] w fun e w' => e = .returned (.tuple #[.string (bs (cutb c (us s)).1), .string (bs (cutb c (us s)).2.1), .bool (cutb c (us s)).2.2]) ∧ Drn w w' := by
  obtain ⟨m, hm⟩ := hm
  refine (Tryd.strings_Cut s ⟨#[c]⟩ m w hs hm).mono ?_
  rintro e w' ⟨rfl, h⟩
  refine ⟨?_, h⟩
  rw [one_data, lib_cut]; rfl
/-- does a text begin with a sign? -/
def opens (c : UInt8) (l : List UInt8) : Bool := match l with | [] => false | x :: _ => x.toNat == c.toNat
theorem prefix_c (s : ByteArray) (c : UInt8) (w : World) :
    Calls Tryd.prog 76 #[.string s, .string ⟨#[c]⟩] w fun e w' => e = .returned (.bool (opens c (us s))) ∧ w = w' := by
  refine (Tryd.strings_HasPrefix s ⟨#[c]⟩ w).mono ?_
  rintro e w' ⟨rfl, rfl⟩
  refine ⟨?_, rfl⟩
  rw [one_data]
  unfold Lib.hasPrefix us opens
  cases s.data.toList with
  | nil => rfl
  | cons x r =>
    simp only [List.isPrefixOf, Bool.and_true]
    rw [show (c == x) = (x.toNat == c.toNat) from by
      rw [Bool.eq_iff_iff, beq_iff_eq, beq_iff_eq]; exact ⟨fun h => by rw [h], fun h => (UInt8.toNat_inj.1 h).symm⟩]
theorem split_c (s : ByteArray) (hs : s.size < 4294967281) (c : UInt8) (w : World) (hm : Ml w) :
    Calls Tryd.prog 103 #[.string s, .string ⟨#[c]⟩] w fun e w' => ∃ v, e = .returned v ∧ RStrs w' v (splitc c (us s)) ∧ Below w.heap.size w w' := by
  obtain ⟨m, hm⟩ := hm
  refine (Tryd.strings_Split s ⟨#[c]⟩ m w hs hm (Nat.le_refl 1)).mono ?_
  rintro e w' ⟨rfl, rfl⟩
  refine ⟨_, rfl, ?_, (Below.refl _ _).alloc (Nat.le_refl _) _⟩
  have hd := Lib.splitB_data ⟨#[c]⟩ 0 (Lib.countB s ⟨#[c]⟩) s
  have hk : Lib.splitK [c] 0 (Lib.countB s ⟨#[c]⟩) s.data.toList = splitc c (us s) := lib_split c _ _ rfl
  rw [one_data, hk] at hd
  have hl : Lib.countB s ⟨#[c]⟩ + 1 = (splitc c (us s)).length := by
    rw [← hd, List.length_map, Lib.splitB_all ⟨#[c]⟩ (Nat.le_refl 1) 0 _ s rfl]
  have hsm : Lib.countB s ⟨#[c]⟩ ≤ s.size := Lib.countB_le ⟨#[c]⟩ (Nat.le_refl 1) _ s (Nat.le_refl _)
  rw [hl]
  refine .inr ⟨w.heap.size, 0, _, rfl, Nat.le_refl _, by rw [← hl]; unfold maxLen; omega, by rw [World.size_alloc]; exact Nat.lt_succ_self _, fun j u hj => ?_⟩
  rw [World.cell?_alloc_at _ _ _ _ rfl]
  rw [← hd, List.map_map] at hj
  simpa [sv, bs, Function.comp_def] using hj
theorem replaceAll_c (s : ByteArray) (hs : s.size < 4294967281) (a b : UInt8) (hab : a ≠ b) (w : World) (hm : Ml w) :
    Calls Tryd.prog 51 #[.string s, .string ⟨#[a]⟩, .string ⟨#[b]⟩] w fun e w' => e = .returned (.string (bs (swapb a b (us s)))) ∧ Below w.heap.size w w' := by
  obtain ⟨m, hm⟩ := hm
  have hsm : Lib.countB s ⟨#[a]⟩ ≤ s.size := Lib.countB_le ⟨#[a]⟩ (Nat.le_refl 1) _ s (Nat.le_refl _)
  refine (Tryd.strings_ReplaceAll s ⟨#[a]⟩ ⟨#[b]⟩ m w hs hm (Nat.le_refl 1) (by have : (⟨#[b]⟩ : ByteArray).size = 1 := rfl; rw [this]; omega)).mono ?_
  rintro e w' ⟨rfl, h⟩
  refine ⟨?_, h⟩
  rw [one_data, one_data, lib_replace a b hab]; rfl

end Go.Proofs.YteiafgoigfehgaaDoor
