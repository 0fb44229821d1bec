/-
  rosterref03.Cut.
  The library's strings.Cut, HasPrefix, Split, ReplaceAll in the words of this proof (a sign of one byte).
  Hosts: what they are, in plain words; uri.six.
  uri.Host.
  rosterref03.Split, rosterref03.Host.
  rosterref03.Host.
-/
import Derived.Test.YtbljmjbialinkaaDoorBase
import Derived.OwnWalk
import Derived.Deep.QuietTactic
import Derived.BigQuiet
import Derived.Test.YtbljmjbialinkaaDoorScS
import Derived.Test.YtbljmjbialinkaaDoorShelf
import Derived.Lib.Replace
import Derived.Lib.Split
namespace Go.Proofs.YtbljmjbialinkaaDoor

section
open Go.RowKit

/-- what stands ahead of the first sign, behind it, and whether there is one -/
def cutb (c : UInt8) : List UInt8 → List UInt8 × List UInt8 × Bool
  | [] => ([], [], false)
  | x :: r => if x.toNat = c.toNat then ([], r, true) else (x :: (cutb c r).1, (cutb c r).2.1, (cutb c r).2.2)
theorem cutb_yes (c x : UInt8) (r : List UInt8) (h : x.toNat = c.toNat) : cutb c (x :: r) = ([], r, true) := by rw [cutb, if_pos h]
theorem cutb_no (c x : UInt8) (r : List UInt8) (h : ¬ x.toNat = c.toNat) : cutb c (x :: r) = (x :: (cutb c r).1, (cutb c r).2.1, (cutb c r).2.2) := by rw [cutb, if_neg h]
def ahead (xs : List UInt8) (p : List UInt8 × List UInt8 × Bool) : List UInt8 × List UInt8 × Bool := (xs ++ p.1, p.2.1, p.2.2)
theorem cut_step (s : ByteArray) (c : UInt8) (k : Nat) (h : k < s.size) (hn : ¬ s[k].toNat = c.toNat) (hp : cutb c (us s) = ahead ((us s).take k) (cutb c ((us s).drop k))) :
    cutb c (us s) = ahead ((us s).take (k + 1)) (cutb c ((us s).drop (k + 1))) := by
  rw [hp, drop_us s k h, cutb_no c _ _ hn, take_us s k h]; unfold ahead; simp
theorem cut_found (s : ByteArray) (c : UInt8) (k : Nat) (h : k < s.size) (hn : s[k].toNat = c.toNat) (hp : cutb c (us s) = ahead ((us s).take k) (cutb c ((us s).drop k))) :
    cutb c (us s) = ((us s).take k, (us s).drop (k + 1), true) := by
  rw [hp, drop_us s k h, cutb_yes c _ _ hn]; unfold ahead; simp
theorem cut_end (s : ByteArray) (c : UInt8) (k : Nat) (h : s.size ≤ k) (hp : cutb c (us s) = ahead ((us s).take k) (cutb c ((us s).drop k))) :
    cutb c (us s) = (us s, [], false) := by
  rw [hp, drop_us_end s k h, take_all s k h]; unfold ahead cutb; simp
theorem ret_cut {a b : ByteArray} {o : Bool} {p : List UInt8 × List UInt8 × Bool} (h : p = (us a, us b, o)) :
    Ending.returned (.tuple #[.string a, .string b, .bool o]) = .returned (.tuple #[.string (bs p.1), .string (bs p.2.1), .bool p.2.2]) := by rw [h]; simp

end

section
open Go.RowKit

/-- what internal/bytealg.MaxLen holds is some int -/
def Ml (w : World) : Prop := ∃ m, w.cell? ⟨0, 0, none⟩ = some (.int .i64 m)
theorem cell_lt {w : World} {g o : Nat} {v : Value} (h : w.cell? ⟨g, o, none⟩ = some v) : g < w.heap.size := by
  rcases Nat.lt_or_ge g w.heap.size with hlt | hge
  · exact hlt
  · simp [World.cell?, Array.getElem?_eq_none hge] at h
theorem Ml.below {w w' : World} (h : Ml w) (hB : Below w.heap.size w w') : Ml w' := by
  obtain ⟨m, hm⟩ := h
  exact ⟨m, (hB.cell (p := ⟨0, 0, none⟩) (cell_lt hm)).trans hm⟩
theorem Ml.drewN {w : World} (h : Ml w) (n : Nat) : Ml (w.drewN n) := h.below (Drn.below ⟨n, rfl⟩)

theorem idx_cons (c b : UInt8) (l : List UInt8) : Lib.index (b :: l) [c] = if b.toNat = c.toNat then 0 else if Lib.index l [c] == -1 then -1 else Lib.index l [c] + 1 := by
  rw [Lib.index]
  have : ([c].isPrefixOf (b :: l) = true) ↔ b.toNat = c.toNat := by
    simp only [List.isPrefixOf, Bool.and_true, beq_iff_eq]
    constructor
    · intro h; rw [h]
    · intro h; exact (UInt8.toNat_inj.1 h).symm
  by_cases h : b.toNat = c.toNat
  · rw [if_pos h, if_pos (this.2 h)]
  · rw [if_neg h, if_neg (fun e => h (this.1 e))]
theorem idx_cut (c : UInt8) : ∀ l : List UInt8, (Lib.index l [c] = -1 ∧ cutb c l = (l, [], false)) ∨ (∃ i : Nat, Lib.index l [c] = i ∧ i < l.length ∧ cutb c l = (l.take i, l.drop (i + 1), true))
  | [] => .inl ⟨rfl, rfl⟩
  | b :: l => by
    rw [idx_cons]
    by_cases h : b.toNat = c.toNat
    · refine .inr ⟨0, by rw [if_pos h]; rfl, by simp, by rw [cutb, if_pos h]; rfl⟩
    · rw [if_neg h, cutb, if_neg h]
      rcases idx_cut c l with ⟨h1, h2⟩ | ⟨i, h1, h2, h3⟩
      · exact .inl ⟨by rw [h1]; rfl, by rw [h2]⟩
      · refine .inr ⟨i + 1, ?_, by simp; omega, by rw [h3]; rfl⟩
        have hn : (((i : Nat) : Int) == -1) = false := by rw [beq_eq_false_iff_ne]; omega
        rw [h1, hn, if_neg (by decide)]
        omega
theorem lib_cut (c : UInt8) (l : List UInt8) : Lib.cut l [c] = cutb c l := by
  unfold Lib.cut
  rcases idx_cut c l with ⟨h1, h2⟩ | ⟨i, h1, _, h3⟩
  · rw [h1, if_neg (by decide), h2]
  · rw [h1, if_pos (by omega), h3]; rfl

/-- the parts between any two signs -/
def splitc (c : UInt8) : List UInt8 → List (List UInt8)
  | [] => [[]]
  | x :: r => if x.toNat = c.toNat then [] :: splitc c r else (x :: (splitc c r).headD []) :: (splitc c r).tail
theorem splitc_cut (c : UInt8) : ∀ l : List UInt8, splitc c l = (cutb c l).1 :: (if (cutb c l).2.2 = true then splitc c (cutb c l).2.1 else [])
  | [] => rfl
  | x :: r => by
    by_cases h : x.toNat = c.toNat
    · rw [splitc, if_pos h, cutb, if_pos h]; rfl
    · rw [splitc, if_neg h, cutb, if_neg h, splitc_cut c r]; rfl
theorem lib_split (c : UInt8) : ∀ (k : Nat) (l : List UInt8), Lib.count l [c] = k → Lib.splitK [c] 0 k l = splitc c l
  | 0, l, hk => by
    rcases idx_cut c l with ⟨_, h2⟩ | ⟨i, h1, _, _⟩
    · rw [splitc_cut, h2]; rfl
    · have := Lib.count_hit (s := l) (sub := [c]) (by simp) h1; omega
  | k + 1, l, hk => by
    rcases idx_cut c l with ⟨h1, _⟩ | ⟨i, h1, _, h3⟩
    · have := Lib.count_miss h1; omega
    · have hc := Lib.count_hit (s := l) (sub := [c]) (by simp) h1
      rw [splitc_cut, h3]
      have hn : ¬ ((((i : Nat) : Int) == -1) = true) := by rw [beq_iff_eq]; omega
      rw [Lib.splitK, h1, if_neg hn]
      have e1 : ((i : Nat) : Int).toNat = i := by omega
      rw [e1, if_pos rfl]
      show l.take (i + 0) :: _ = _
      rw [Nat.add_zero]
      congr 1
      exact lib_split c k _ (by have : (l.drop (i + [c].length)) = l.drop (i + 1) := rfl; rw [this] at hc; show Lib.count (l.drop (i + 1)) [c] = k; omega)

/-- a sign for another one -/
def swapb (a b : UInt8) (l : List UInt8) : List UInt8 := l.map fun x => if x.toNat = a.toNat then b else x
theorem swapb_no (a b : UInt8) : ∀ l : List UInt8, cutb a l = (l, [], false) → swapb a b l = l
  | [], _ => rfl
  | x :: r, h => by
    by_cases hx : x.toNat = a.toNat
    · rw [cutb, if_pos hx] at h; cases h
    · rw [cutb, if_neg hx] at h
      injection h with h1 h2
      injection h1 with _ h1
      injection h2 with h2 h3
      have ih := swapb_no a b r (by rw [← h1] at *; exact Prod.ext h1 (Prod.ext h2 h3))
      unfold swapb at ih ⊢
      rw [List.map_cons, if_neg hx, ih]
theorem swapb_yes (a b : UInt8) : ∀ (l : List UInt8) (i : Nat), i < l.length → cutb a l = (l.take i, l.drop (i + 1), true) → swapb a b l = l.take i ++ (b :: swapb a b (l.drop (i + 1)))
  | [], _, h, _ => by simp at h
  | x :: r, i, hi, h => by
    by_cases hx : x.toNat = a.toNat
    · rw [cutb, if_pos hx] at h
      have : i = 0 := by
        rcases i with _ | i
        · rfl
        · injection h with h1 _; cases h1
      subst this
      show (x :: r).map _ = _
      rw [List.map_cons, if_pos hx]; rfl
    · rw [cutb, if_neg hx] at h
      rcases i with _ | i
      · injection h with h1 _; cases h1
      · injection h with h1 h2
        injection h1 with _ h1
        injection h2 with h2 h3
        have ih := swapb_yes a b r i (by simpa using hi) (Prod.ext h1 (Prod.ext h2 h3))
        show (x :: r).map _ = _
        rw [List.map_cons, if_neg hx]
        show x :: swapb a b r = _
        rw [ih]; rfl
theorem lib_replaceK (a b : UInt8) : ∀ (k : Nat) (l : List UInt8), Lib.count l [a] = k → Lib.replaceK [a] [b] k l = swapb a b l
  | 0, l, hk => by
    rcases idx_cut a l with ⟨_, h2⟩ | ⟨i, h1, _, _⟩
    · rw [swapb_no a b l h2]; rfl
    · have := Lib.count_hit (s := l) (sub := [a]) (by simp) h1; omega
  | k + 1, l, hk => by
    rcases idx_cut a l with ⟨h1, _⟩ | ⟨i, h1, hi, h3⟩
    · have := Lib.count_miss h1; omega
    · have hc := Lib.count_hit (s := l) (sub := [a]) (by simp) h1
      rw [Lib.replaceK_hit _ _ _ _ _ h1, swapb_yes a b l i hi h3]
      have e : l.drop (i + [a].length) = l.drop (i + 1) := rfl
      rw [e] at hc ⊢
      rw [lib_replaceK a b k _ (by omega)]; simp
theorem lib_replace (a b : UInt8) (h : a ≠ b) (l : List UInt8) : Lib.replaceAll l [a] [b] = swapb a b l := by
  unfold Lib.replaceAll Lib.replace Lib.replaceNum
  rw [if_neg (by simpa using h), if_pos (.inl (by decide))]
  exact lib_replaceK a b _ l rfl
theorem swapb_len (a b : UInt8) (l : List UInt8) : (swapb a b l).length = l.length := List.length_map ..
theorem one_data (c : UInt8) : (⟨#[c]⟩ : ByteArray).data.toList = [c] := rfl

theorem cut_c (s : ByteArray) (hs : s.size < 4294967281) (c : UInt8) (w : World) (hm : Ml w) :
    Calls Tryd.prog 25 #[.string s, .string ⟨#[c]⟩] w fun e w' => e = .returned (.tuple #[.string (bs (cutb c (us s)).1), .string (bs (cutb c (us s)).2.1), .bool (cutb c (us s)).2.2]) ∧ Drn w w' := by
  obtain ⟨m, hm⟩ := hm
  refine (Tryd.strings_Cut s ⟨#[c]⟩ m w hs hm).mono ?_
  rintro e w' ⟨rfl, h⟩
  refine ⟨?_, h⟩
  rw [one_data, lib_cut]; rfl
/-- does a text begin with a sign? -/
def opens (c : UInt8) (l : List UInt8) : Bool := match l with | [] => false | x :: _ => x.toNat == c.toNat
theorem split_c (s : ByteArray) (hs : s.size < 4294967281) (c : UInt8) (w : World) (hm : Ml w) :
    Calls Tryd.prog 29 #[.string s, .string ⟨#[c]⟩] w fun e w' => ∃ v, e = .returned v ∧ RStrs w' v (splitc c (us s)) ∧ Below w.heap.size w w' := by
  obtain ⟨m, hm⟩ := hm
  refine (Tryd.strings_Split s ⟨#[c]⟩ m w hs hm (Nat.le_refl 1)).mono ?_
  rintro e w' ⟨rfl, rfl⟩
  refine ⟨_, rfl, ?_, (Below.refl _ _).alloc (Nat.le_refl _) _⟩
  have hd := Lib.splitB_data ⟨#[c]⟩ 0 (Lib.countB s ⟨#[c]⟩) s
  have hk : Lib.splitK [c] 0 (Lib.countB s ⟨#[c]⟩) s.data.toList = splitc c (us s) := lib_split c _ _ rfl
  rw [one_data, hk] at hd
  have hl : Lib.countB s ⟨#[c]⟩ + 1 = (splitc c (us s)).length := by
    rw [← hd, List.length_map, Lib.splitB_all ⟨#[c]⟩ (Nat.le_refl 1) 0 _ s rfl]
  have hsm : Lib.countB s ⟨#[c]⟩ ≤ s.size := Lib.countB_le ⟨#[c]⟩ (Nat.le_refl 1) _ s (Nat.le_refl _)
  rw [hl]
  refine .inr ⟨w.heap.size, 0, _, rfl, Nat.le_refl _, by rw [← hl]; unfold maxLen; omega, by rw [World.size_alloc]; exact Nat.lt_succ_self _, fun j u hj => ?_⟩
  rw [World.cell?_alloc_at _ _ _ _ rfl]
  rw [← hd, List.map_map] at hj
  simpa [sv, bs, Function.comp_def] using hj
end

section
open Go.RowKit

def sixb (c : UInt8) : Bool := (c.toNat == 58) || (c.toNat == 46) || testc 4 c
def inner (l : List UInt8) (k : Nat) : List UInt8 := (l.take k).drop 1
def colons (l : List UInt8) : Nat := (l.filter fun c => c.toNat == 58).length
/-- an address of IPv6 in brackets, as far as its signs go (the first bracket apart) -/
def sixS (l : List UInt8) : Bool := decide (4 ≤ l.length) && (l.getLast? == some 93) && (inner l (l.length - 1)).all sixb && decide (2 ≤ colons (inner l (l.length - 1)))
def label (p : List UInt8) : Bool := decide (1 ≤ p.length) && allc 64 p && !(p.head? == some 45) && !(p.getLast? == some 45)
def hostS (l : List UInt8) : Bool := decide (1 ≤ l.length) && decide (l.length ≤ 64) && (lowr l == l) && (if l.head? == some 91 then sixS l else (splitc 46 l).all label)

theorem inner_one (l : List UInt8) : inner l 1 = [] := by unfold inner; cases l <;> rfl
theorem inner_step (s : ByteArray) (k : Nat) (h0 : 1 ≤ k) (h : k < s.size) : inner (us s) (k + 1) = inner (us s) k ++ [s[k]] := by
  unfold inner
  rw [take_us s k h, List.drop_append_of_le_length]
  rw [List.length_take, length_us]; omega
theorem all_testc (a b : Int) (h : ∀ n : Fin 256, testc a (UInt8.ofNat n.val) = testc b (UInt8.ofNat n.val)) (l : List UInt8) : allc a l = allc b l := by
  unfold allc
  have : testc a = testc b := funext fun c => all_bytes (fun c => testc a c = testc b c) h c
  rw [this]
theorem allc_67 (l : List UInt8) : allc 67 l = allc 64 l := all_testc 67 64 (by decide +kernel) l

theorem sixb_colon (c : UInt8) (h : c.toNat = 58) : sixb c = true := by unfold sixb; simp [h]
theorem sixb_dot (c : UInt8) (h : c.toNat = 46) : sixb c = true := by unfold sixb; simp [h]
theorem sixb_hex (c : UInt8) (h : testc 4 c = true) : sixb c = true := by unfold sixb; simp [h]
theorem sixb_no (c : UInt8) (h1 : ¬ c.toNat = 58) (h2 : ¬ c.toNat = 46) (h3 : testc 4 c = false) : sixb c = false := by unfold sixb; simp [h1, h2, h3]
theorem inner_bad (s : ByteArray) (k : Nat) (h0 : 1 ≤ k) (h : k + 1 < s.size) (hb : sixb s[k] = false) : (inner (us s) (s.size - 1)).all sixb = false := by
  rw [← Bool.not_eq_true, List.all_eq_true]
  intro hall
  have hm : s[k] ∈ inner (us s) (s.size - 1) := by
    unfold inner
    refine List.mem_of_getElem? (i := k - 1) ?_
    rw [List.getElem?_drop, List.getElem?_take_of_lt (by omega), show 1 + (k - 1) = k from by omega, get_us s k (by omega)]
  have := hall _ hm
  rw [hb] at this; cases this
theorem inner_all (s : ByteArray) (k : Nat) (h0 : 1 ≤ k) (h : k < s.size) (hb : sixb s[k] = true) (hp : (inner (us s) k).all sixb = true) : (inner (us s) (k + 1)).all sixb = true := by
  rw [inner_step s k h0 h, List.all_append, hp]; simp [hb]
theorem colons_yes (s : ByteArray) (k : Nat) (h0 : 1 ≤ k) (h : k < s.size) (hb : s[k].toNat = 58) : colons (inner (us s) (k + 1)) = colons (inner (us s) k) + 1 := by
  rw [inner_step s k h0 h]; unfold colons; simp [hb]
theorem colons_no (s : ByteArray) (k : Nat) (h0 : 1 ≤ k) (h : k < s.size) (hb : ¬ s[k].toNat = 58) : colons (inner (us s) (k + 1)) = colons (inner (us s) k) := by
  rw [inner_step s k h0 h]; unfold colons; simp [hb]
theorem colons_le (l : List UInt8) (k : Nat) : colons (inner l k) ≤ l.length := by
  unfold colons inner
  refine Nat.le_trans (List.length_filter_le _ _) ?_
  rw [List.length_drop, List.length_take]; omega
theorem sixS_short (l : List UInt8) (h : l.length < 4) : sixS l = false := by unfold sixS; rw [show decide (4 ≤ l.length) = false from decide_eq_false (by omega)]; simp
theorem last_us (s : ByteArray) (h : 0 < s.size) : (us s).getLast? = some s[s.size - 1] := by
  rw [List.getLast?_eq_getElem?, length_us, get_us s _ (by omega)]
theorem last_is (s : ByteArray) (h : 0 < s.size) (n : Nat) (hn : n < 256) : ((us s).getLast? == some (UInt8.ofNat n)) = decide (s[s.size - 1].toNat = n) := by
  rw [last_us s h, Bool.eq_iff_iff, beq_iff_eq, decide_eq_true_iff]
  constructor
  · intro e; injection e with e; rw [e]; simp; omega
  · intro e; rw [← e]; simp
theorem head_is (s : ByteArray) (h : 0 < s.size) (n : Nat) (hn : n < 256) : ((us s).head? == some (UInt8.ofNat n)) = decide (s[0].toNat = n) := by
  rw [List.head?_eq_getElem?, get_us s 0 h, Bool.eq_iff_iff, beq_iff_eq, decide_eq_true_iff]
  constructor
  · intro e; injection e with e; rw [e]; simp; omega
  · intro e; rw [← e]; simp
theorem sixS_last (s : ByteArray) (h : 0 < s.size) (hl : ¬ s[s.size - 1].toNat = 93) : sixS (us s) = false := by
  unfold sixS
  have : ((us s).getLast? == some 93) = false := (last_is s h 93 (by decide)).trans (decide_eq_false hl)
  rw [this]; simp
theorem sixS_bad (s : ByteArray) (hb : (inner (us s) (s.size - 1)).all sixb = false) : sixS (us s) = false := by
  unfold sixS; rw [length_us, hb]; simp
theorem sixS_end (s : ByteArray) (h : 4 ≤ s.size) (hl : s[s.size - 1].toNat = 93) (hb : (inner (us s) (s.size - 1)).all sixb = true) : sixS (us s) = decide (2 ≤ colons (inner (us s) (s.size - 1))) := by
  unfold sixS
  have h1 : ((us s).getLast? == some 93) = true := (last_is s (by omega) 93 (by decide)).trans (decide_eq_true hl)
  rw [length_us, h1, hb]; simp [h]

set_option maxHeartbeats 800000 in
theorem six_c (s : ByteArray) (hs : s.size ≤ 4294967280) (w : World) :
    Calls Tryd.prog 68 #[.string s] w fun e w' => e = .returned (.bool (sixS (us s))) ∧ w = w' := by
  by_cases h4 : s.size < 4
  · have HN := Lib.hid (sixS_short (us s) (by rw [length_us]; exact h4))
    go_enter Tryd.func68, Tryd.ntmps68
    go_wp2
    go_ret
    exact ⟨ret_bool (by rw [HN.out]), rfl⟩
  have q1 : s.size - 1 < s.size := by omega
  have q2 : (0 : Int) ≤ (s.size : Int) - 1 := by omega
  have q3 : ((s.size : Int) - 1).toNat = s.size - 1 := by omega
  by_cases hl : s[s.size - 1].toNat = 93
  · have t1 : ((s[s.size - 1].toNat : Int) != 93) = false := by simp [hl]
    have HE := Lib.hid (sixS_end s (by omega) hl)
    clear hl
    go_enter Tryd.func68, Tryd.ntmps68
    go_wp2
    go_loop [3, 4] (fun n i => ∃ k : Nat, 1 ≤ k ∧ k + 1 ≤ s.size ∧ i = .int .i64 k ∧ n = .int .i64 (colons (inner (us s) k) : Nat) ∧ (inner (us s) k).all sixb = true) (fun _ i => s.size - (intOf i).toNat)
    case atStart => exact ⟨1, Nat.le_refl _, by omega, rfl, by rw [inner_one]; rfl, by rw [inner_one]; rfl⟩
    case round =>
      obtain ⟨k, hk0, hk, rfl, rfl, hb⟩ := hrel
      have HB := Lib.hid hb; clear hb
      have hcl : colons (inner (us s) k) ≤ s.size := by rw [← length_us]; exact colons_le _ _
      by_cases hlt : k + 1 < s.size
      · by_cases c1 : s[k].toNat = 58
        · have a1 : ((s[k].toNat : Int) == 58) = true := by simp [c1]
          have HA := Lib.hid (inner_all s k hk0 (by omega) (sixb_colon _ c1) HB.out)
          have HC := Lib.hid (colons_yes s k hk0 (by omega) c1)
          clear c1
          go_wp2
          go_round
          case rel => exact ⟨k + 1, by omega, by omega, by go_num, by rw [HC.out]; go_num, HA.out⟩
          case measure => simp [intOf]; omega
        · have a1 : ((s[k].toNat : Int) == 58) = false := by simp; omega
          have HC := Lib.hid (colons_no s k hk0 (by omega) c1)
          by_cases c2 : s[k].toNat = 46
          · have a2 : ((s[k].toNat : Int) != 46) = false := by simp [c2]
            have HA := Lib.hid (inner_all s k hk0 (by omega) (sixb_dot _ c2) HB.out)
            clear c1 c2
            go_wp2
            go_round
            case rel => exact ⟨k + 1, by omega, by omega, by go_num, by rw [HC.out], HA.out⟩
            case measure => simp [intOf]; omega
          · have a2 : ((s[k].toNat : Int) != 46) = true := by simp; omega
            by_cases ht : (bits BinOp.and IntKind.i64 (cls s[k]) 4 == 0) = true
            · have HN := Lib.hid (sixS_bad s (inner_bad s k hk0 hlt (sixb_no _ c1 c2 (testc_t 4 _ ht))))
              clear c1 c2
              go_wp2_with (go_at_call 41; refine (class_c _ _).mono ?_; rintro e w' ⟨rfl, rfl⟩)
              go_ret
              exact ⟨ret_bool (by rw [HN.out]), rfl⟩
            · have ht' : (bits BinOp.and IntKind.i64 (cls s[k]) 4 == 0) = false := by simpa using ht
              clear ht
              have HA := Lib.hid (inner_all s k hk0 (by omega) (sixb_hex _ (testc_f 4 _ ht')) HB.out)
              clear c1 c2
              go_wp2_with (go_at_call 41; refine (class_c _ _).mono ?_; rintro e w' ⟨rfl, rfl⟩)
              go_round
              case rel => exact ⟨k + 1, by omega, by omega, by go_num, by rw [HC.out], HA.out⟩
              case measure => simp [intOf]; omega
      · obtain rfl : k = s.size - 1 := by omega
        have HX := Lib.hid (HE.out HB.out)
        go_wp2
        go_ret
        exact ⟨ret_bool (by rw [HX.out]; simp; omega), rfl⟩
  · have t1 : ((s[s.size - 1].toNat : Int) != 93) = true := by simp; omega
    have HN := Lib.hid (sixS_last s (by omega) hl)
    clear hl
    go_enter Tryd.func68, Tryd.ntmps68
    go_wp2
    go_ret
    exact ⟨ret_bool (by rw [HN.out]), rfl⟩
end

section
open Go.RowKit

theorem label_zero (P : ByteArray) (h : P.size = 0) : label (us P) = false := by
  unfold label; rw [length_us, h]; rfl
theorem label_all (P : ByteArray) (h : allc 64 (us P) = false) : label (us P) = false := by
  unfold label; rw [h]; simp
theorem label_head (P : ByteArray) (h : 0 < P.size) (hb : P[0].toNat = 45) : label (us P) = false := by
  unfold label
  have : ((us P).head? == some 45) = true := (head_is P h 45 (by decide)).trans (decide_eq_true hb)
  rw [this]; simp
theorem label_last (P : ByteArray) (h : 0 < P.size) (hb : P[P.size - 1].toNat = 45) : label (us P) = false := by
  unfold label
  have : ((us P).getLast? == some 45) = true := (last_is P h 45 (by decide)).trans (decide_eq_true hb)
  rw [this]; simp
theorem label_yes (P : ByteArray) (h : 0 < P.size) (ha : allc 64 (us P) = true) (h0 : ¬ P[0].toNat = 45) (h1 : ¬ P[P.size - 1].toNat = 45) : label (us P) = true := by
  unfold label
  have e0 : ((us P).head? == some 45) = false := (head_is P h 45 (by decide)).trans (decide_eq_false h0)
  have e1 : ((us P).getLast? == some 45) = false := (last_is P h 45 (by decide)).trans (decide_eq_false h1)
  rw [ha, e0, e1, length_us]; simp; omega
theorem host_no (l : List UInt8) (h : l.length = 0 ∨ 64 < l.length ∨ ¬ lowr l = l) : hostS l = false := by
  unfold hostS
  rcases h with h | h | h
  · rw [h]; rfl
  · rw [show decide (l.length ≤ 64) = false from decide_eq_false (by omega)]; simp
  · rw [show (lowr l == l) = false from by rw [beq_eq_false_iff_ne]; exact h]; simp
theorem host_six (s : ByteArray) (h0 : 0 < s.size) (h1 : s.size ≤ 64) (hl : lowr (us s) = us s) (hb : s[0].toNat = 91) : hostS (us s) = sixS (us s) := by
  unfold hostS
  have e0 : ((us s).head? == some 91) = true := (head_is s h0 91 (by decide)).trans (decide_eq_true hb)
  rw [e0, if_pos rfl, hl, length_us]; simp; omega
theorem host_split (s : ByteArray) (h0 : 0 < s.size) (h1 : s.size ≤ 64) (hl : lowr (us s) = us s) (hb : ¬ s[0].toNat = 91) : hostS (us s) = (splitc 46 (us s)).all label := by
  unfold hostS
  have e0 : ((us s).head? == some 91) = false := (head_is s h0 91 (by decide)).trans (decide_eq_false hb)
  rw [e0, if_neg (by decide), hl, length_us]; simp; omega
theorem labels_bad (L : List (List UInt8)) (k : Nat) (h : k < L.length) (hb : label L[k] = false) : L.all label = false := by
  rw [← Bool.not_eq_true, List.all_eq_true]
  intro hall
  have := hall _ (List.getElem_mem h)
  rw [hb] at this; cases this
theorem labels_next (L : List (List UInt8)) (k : Nat) (h : k < L.length) (hb : label L[k] = true) (hp : (L.take k).all label = true) : (L.take (k + 1)).all label = true := by
  rw [List.take_succ_eq_append_getElem h, List.all_append, hp]; simp [hb]
theorem splitc_bd (c : UInt8) : ∀ l : List UInt8, ∀ p ∈ splitc c l, p.length ≤ l.length
  | [], p, h => by simp [splitc] at h; rw [h]; exact Nat.le_refl _
  | x :: r, p, h => by
    rw [splitc] at h
    split at h
    · rcases List.mem_cons.1 h with rfl | h
      · simp
      · have := splitc_bd c r p h; simp; omega
    · rcases List.mem_cons.1 h with rfl | h
      · have := splitc_bd c r ((splitc c r).headD []) (by
          rw [splitc_cut]; simp)
        rw [List.length_cons, List.length_cons]; omega
      · have := splitc_bd c r p (List.mem_of_mem_tail h); simp; omega

set_option maxHeartbeats 1600000 in
theorem host_c (s : ByteArray) (hs : s.size ≤ 4294967280) (w : World) (hm : Ml w) :
    Calls Tryd.prog 45 #[.string s] w fun e w' => e = .returned (.bool (hostS (us s))) ∧ Below w.heap.size w w' := by
  have hR : Below w.heap.size w w := Below.refl _ _
  by_cases hz : s.size = 0
  · have HN := Lib.hid (host_no (us s) (.inl (by rw [length_us]; exact hz)))
    obtain rfl := eq_empty hz
    go_enter Tryd.func45, Tryd.ntmps45
    go_wp2
    all_goals
      go_ret
      exact ⟨ret_bool (by rw [HN.out]), hR⟩
  have hE := ne_empty hz
  have hF := isEmpty_f hz
  by_cases h64 : 64 < s.size
  · have HN := Lib.hid (host_no (us s) (.inr (.inl (by rw [length_us]; exact h64))))
    go_enter Tryd.func45, Tryd.ntmps45
    go_wp2
    all_goals
      go_ret
      exact ⟨ret_bool (by rw [HN.out]), hR⟩
  have HL := Lib.hid (fun wx => lowerP_c s (by omega) wx)
  by_cases hlow : lowr (us s) = us s
  case neg =>
    have HN := Lib.hid (host_no (us s) (.inr (.inr hlow)))
    obtain ⟨t, ht⟩ : ∃ t, t = bs (lowr (us s)) := ⟨_, rfl⟩
    have hne : (t.toList == s.toList) = false := by
      rw [toList_us, toList_us, ht, us_bs, beq_eq_false_iff_ne]; exact hlow
    rw [← ht] at HL
    clear ht hlow
    go_enter Tryd.func45, Tryd.ntmps45
    go_wp2_with (go_at_call 26; refine (HL.out _).mono ?_; rintro e w1 ⟨rfl, hC⟩)
    go_ret
    exact ⟨ret_bool (by rw [HN.out]), hC⟩
  case pos =>
    rw [hlow, bs_us] at HL
    have h0 : 0 < s.size := by omega
    by_cases hb : s[0].toNat = 91
    · have HN := Lib.hid (host_six s h0 (by omega) hlow hb)
      have H6 := Lib.hid (fun wx => six_c s hs wx)
      have t1 : ((s[0].toNat : Int) == 91) = true := by simp [hb]
      clear hlow hb
      go_enter Tryd.func45, Tryd.ntmps45
      go_wp2_with (first | (go_at_call 26; refine (HL.out _).mono ?_; rintro e w1 ⟨rfl, hC⟩) | (go_at_call 68; refine (H6.out _).mono ?_; rintro e w2 ⟨rfl, rfl⟩))
      go_ret
      exact ⟨ret_bool (by rw [HN.out]), hC⟩
    · have HN := Lib.hid (host_split s h0 (by omega) hlow hb)
      have H6 := Lib.hid (fun wx hx => split_c s (by omega) 46 wx hx)
      have t1 : ((s[0].toNat : Int) == 91) = false := by simp; omega
      have HBD := Lib.hid (fun p hp => Nat.le_trans (splitc_bd 46 (us s) p hp) (by rw [length_us]; exact hs))
      clear hlow hb
      obtain ⟨L, hL⟩ : ∃ L, L = splitc 46 (us s) := ⟨_, rfl⟩
      rw [← hL] at HN H6 HBD
      clear hL
      have HM := Lib.hid hm
      clear hm
      go_enter Tryd.func45, Tryd.ntmps45
      go_wp2_with (first | (go_at_call 26; refine (HL.out _).mono ?_; rintro e w1 ⟨rfl, hC⟩) | (go_at_call 29; refine (H6.out _ (HM.out.below hC)).mono ?_; rintro e w2 ⟨v, rfl, hv, hC2⟩; obtain ⟨ao, cap, rfl, hm1, c1⟩ := hv.form; have C1 := Lib.hid c1; clear c1 hv; have HW := Lib.hid (hC.trans (hC2.mono hC.size)); clear hC hC2))
      unfold maxLen at hm1
      go_loop [26] (fun i => ∃ k : Nat, k ≤ L.length ∧ i = .int .i64 k ∧ (L.take k).all label = true) (fun i => L.length - (intOf i).toNat)
      case atStart => exact ⟨0, Nat.zero_le _, rfl, rfl⟩
      case round =>
        obtain ⟨k, hk, rfl, hb⟩ := hrel
        have HB := Lib.hid hb; clear hb
        by_cases hlt : k < L.length
        · obtain ⟨b, off, rfl, hb1, hc1⟩ := C1.out (by omega)
          have x1 := hc1 k hlt
          have k0 : (0 : Int) ≤ (k : Int) := by omega
          have k1 : (k : Int) < (L.length : Int) := by omega
          clear hc1
          have HX := Lib.hid (fun h => HN.out.trans (labels_bad L k hlt h))
          have HY := Lib.hid (fun h => labels_next L k hlt h HB.out)
          have hps := HBD.out _ (List.getElem_mem hlt)
          obtain ⟨P, hP⟩ : ∃ P, P = bs L[k] := ⟨_, rfl⟩
          have hPu : L[k] = us P := by rw [hP]; simp
          rw [← hP] at x1
          rw [hPu] at HX HY hps
          rw [length_us] at hps
          clear hP hPu
          have HA := Lib.hid (fun wx => all_c P (by omega) 67 wx)
          rw [allc_67] at HA
          by_cases pz : P.size = 0
          · have HF := Lib.hid (HX.out (label_zero P pz))
            obtain rfl := eq_empty pz
            go_wp2
            all_goals
              go_ret
              exact ⟨ret_bool (by rw [HF.out]), HW.out⟩
          have pE := ne_empty pz
          have pF := isEmpty_f pz
          have p0 : 0 < P.size := by omega
          cases ha : allc 64 (us P) with
          | false =>
            have HF := Lib.hid (HX.out (label_all P ha))
            rw [ha] at HA; clear ha
            go_wp2_with (go_at_call 63; refine (HA.out _).mono ?_; rintro e w3 ⟨rfl, rfl⟩)
            go_ret
            exact ⟨ret_bool (by rw [HF.out]), HW.out⟩
          | true =>
            by_cases d0 : P[0].toNat = 45
            · have HF := Lib.hid (HX.out (label_head P p0 d0))
              have t2 : ((P[0].toNat : Int) == 45) = true := by simp [d0]
              rw [ha] at HA; clear ha d0
              go_wp2_with (go_at_call 63; refine (HA.out _).mono ?_; rintro e w3 ⟨rfl, rfl⟩)
              go_ret
              exact ⟨ret_bool (by rw [HF.out]), HW.out⟩
            have t2 : ((P[0].toNat : Int) == 45) = false := by simp; omega
            have q1 : P.size - 1 < P.size := by omega
            have q2 : (0 : Int) ≤ (P.size : Int) - 1 := by omega
            have q3 : ((P.size : Int) - 1).toNat = P.size - 1 := by omega
            by_cases d1 : P[P.size - 1].toNat = 45
            · have HF := Lib.hid (HX.out (label_last P p0 d1))
              have t3 : ((P[P.size - 1].toNat : Int) == 45) = true := by simp [d1]
              rw [ha] at HA; clear ha d0 d1
              go_wp2_with (go_at_call 63; refine (HA.out _).mono ?_; rintro e w3 ⟨rfl, rfl⟩)
              go_ret
              exact ⟨ret_bool (by rw [HF.out]), HW.out⟩
            · have t3 : ((P[P.size - 1].toNat : Int) == 45) = false := by simp; omega
              have HG := Lib.hid (HY.out (label_yes P p0 ha d0 d1))
              rw [ha] at HA; clear ha d0 d1
              go_wp2_with (go_at_call 63; refine (HA.out _).mono ?_; rintro e w3 ⟨rfl, rfl⟩)
              go_round
              case rel => exact ⟨k + 1, by omega, by go_num, HG.out⟩
              case measure => simp [intOf]; omega
        · have hE2 : L.take k = L := List.take_of_length_le (by omega)
          rw [hE2] at HB
          clear hE2
          go_wp2
          go_ret
          exact ⟨ret_bool (by rw [HN.out, HB.out]), HW.out⟩
end

section
open Go.RowKit

theorem cutb_len (c : UInt8) : ∀ l : List UInt8, (cutb c l).2.2 = true → (cutb c l).1.length + (cutb c l).2.1.length + 1 = l.length
  | [], h => by cases h
  | x :: r, h => by
    by_cases hx : x.toNat = c.toNat
    · rw [cutb, if_pos hx]; simp
    · rw [cutb, if_neg hx] at h ⊢
      have := cutb_len c r h
      simp; omega
theorem cutb_le (c : UInt8) : ∀ l : List UInt8, (cutb c l).1.length ≤ l.length ∧ (cutb c l).2.1.length ≤ l.length
  | [] => ⟨Nat.le_refl _, Nat.le_refl _⟩
  | x :: r => by
    by_cases hx : x.toNat = c.toNat
    · rw [cutb, if_pos hx]; simp
    · rw [cutb, if_neg hx]
      have := cutb_le c r
      simp; omega
theorem splitc_len (c : UInt8) : ∀ l : List UInt8, (splitc c l).length ≤ l.length + 1
  | [] => Nat.le_refl _
  | x :: r => by
    have := splitc_len c r
    have h1 : 1 ≤ (splitc c r).length := by rw [splitc_cut]; simp
    rw [splitc]; split <;> simp <;> omega
/-- what is left to split -/
def more (c : UInt8) (l : List UInt8) (m : Bool) : List (List UInt8) := if m = true then splitc c l else []
def moreN (s m : Value) : Nat := match s, m with | .string x, .bool true => x.size + 1 | _, _ => 0

end

section
open Go.RowKit

end

end Go.Proofs.YtbljmjbialinkaaDoor
