/-
  Packed: XUri, XPrm.
-/
import Derived.Test.YtipdiddjhimdcaaGreatDoorB01
import Derived.OwnWalk
import Derived.Deep.QuietTactic
import Derived.BigQuiet
import Derived.Test.YtipdiddjhimdcaaGreatDoorB03
import Derived.Test.YtipdiddjhimdcaaGreatDoorShelf
import Derived.Lib.Replace
import Derived.Lib.Split
import Derived.Laws.StructEq
namespace Go.Proofs.YtipdiddjhimdcaaGreatDoor

section
open Go.RowKit

/-- what stands ahead of the first sign, behind it, and whether there is one -/
def cutb (c : UInt8) : List UInt8 → List UInt8 × List UInt8 × Bool
  | [] => ([], [], false)
  | x :: r => if x.toNat = c.toNat then ([], r, true) else (x :: (cutb c r).1, (cutb c r).2.1, (cutb c r).2.2)
theorem cutb_yes (c x : UInt8) (r : List UInt8) (h : x.toNat = c.toNat) : cutb c (x :: r) = ([], r, true) := by rw [cutb, if_pos h]
theorem cutb_no (c x : UInt8) (r : List UInt8) (h : ¬ x.toNat = c.toNat) : cutb c (x :: r) = (x :: (cutb c r).1, (cutb c r).2.1, (cutb c r).2.2) := by rw [cutb, if_neg h]
def ahead (xs : List UInt8) (p : List UInt8 × List UInt8 × Bool) : List UInt8 × List UInt8 × Bool := (xs ++ p.1, p.2.1, p.2.2)
theorem cut_step (s : ByteArray) (c : UInt8) (k : Nat) (h : k < s.size) (hn : ¬ s[k].toNat = c.toNat) (hp : cutb c (us s) = ahead ((us s).take k) (cutb c ((us s).drop k))) :
    cutb c (us s) = ahead ((us s).take (k + 1)) (cutb c ((us s).drop (k + 1))) := by
  rw [hp, drop_us s k h, cutb_no c _ _ hn, take_us s k h]; unfold ahead; simp
theorem cut_found (s : ByteArray) (c : UInt8) (k : Nat) (h : k < s.size) (hn : s[k].toNat = c.toNat) (hp : cutb c (us s) = ahead ((us s).take k) (cutb c ((us s).drop k))) :
    cutb c (us s) = ((us s).take k, (us s).drop (k + 1), true) := by
  rw [hp, drop_us s k h, cutb_yes c _ _ hn]; unfold ahead; simp
theorem cut_end (s : ByteArray) (c : UInt8) (k : Nat) (h : s.size ≤ k) (hp : cutb c (us s) = ahead ((us s).take k) (cutb c ((us s).drop k))) :
    cutb c (us s) = (us s, [], false) := by
  rw [hp, drop_us_end s k h, take_all s k h]; unfold ahead cutb; simp
theorem ret_cut {a b : ByteArray} {o : Bool} {p : List UInt8 × List UInt8 × Bool} (h : p = (us a, us b, o)) :
    Ending.returned (.tuple #[.string a, .string b, .bool o]) = .returned (.tuple #[.string (bs p.1), .string (bs p.2.1), .bool p.2.2]) := by rw [h]; simp

theorem cutR_c (s : ByteArray) (hs : s.size ≤ 9223372036854775807) (c : UInt8) (w : World) :
    Calls Tryz.prog 122 #[.string s, .int .u8 c.toNat] w fun e w' => e = .returned (.tuple #[.string (bs (cutb c (us s)).1), .string (bs (cutb c (us s)).2.1), .bool (cutb c (us s)).2.2]) ∧ Drn w w' := by
  go_enter Tryz.func122, Tryz.ntmps122
  go_wp2
  go_loopw [7] (fun i wr => ∃ k : Nat, k ≤ s.size ∧ i = .int .i64 k ∧ cutb c (us s) = ahead ((us s).take k) (cutb c ((us s).drop k)) ∧ Drn w wr) (fun i _ => s.size - (intOf i).toNat)
  case atStart => exact ⟨0, Nat.zero_le _, rfl, rfl, Drn.refl _⟩
  case round =>
    obtain ⟨k, hk, rfl, hp, hD⟩ := hrel
    have HP := Lib.hid hp; clear hp
    by_cases hlt : k < s.size
    · by_cases h : s[k].toNat = c.toNat
      · have HF := Lib.hid (cut_found s c k hlt h HP.out)
        have t1 : ((s[k].toNat : Int) == (c.toNat : Int)) = true := by simp; omega
        have H := Lib.hid h
        clear h
        have w1 : IntKind.i64.wrap ((k : Int) + 1) = (k : Int) + 1 := IntWalk.i64_in _ (by omega)
        have e1 : ((k : Int) + 1).toNat = k + 1 := by omega
        have q1 : (0 : Int) ≤ (k : Int) := by omega
        have q2 : (k : Int) ≤ (s.size : Int) := by omega
        have q3 : (k : Int) + 1 ≤ (s.size : Int) := by omega
        go_wp2
        go_quiet (fail)
        go_wp2
        go_ret3
        exact ⟨ret_cut (by rw [HF.out, us_extract, us_tail]; simp), hD.step _⟩
      · have HN := Lib.hid (cut_step s c k hlt h HP.out)
        have t1 : ((s[k].toNat : Int) == (c.toNat : Int)) = false := by simp; omega
        clear h
        go_wp2
        go_roundw
        case rel => exact ⟨k + 1, by omega, by go_num, HN.out, hD⟩
        case measure => simp [intOf]; omega
    · have HE := Lib.hid (cut_end s c k (by omega) HP.out)
      go_wp2
      go_ret3
      exact ⟨ret_cut (by rw [HE.out]; rfl), hD⟩
end

section
open Go.RowKit

/-- what internal/bytealg.MaxLen holds is some int -/
def Ml (w : World) : Prop := ∃ m, w.cell? ⟨0, 0, none⟩ = some (.int .i64 m)
theorem cell_lt {w : World} {g o : Nat} {v : Value} (h : w.cell? ⟨g, o, none⟩ = some v) : g < w.heap.size := by
  rcases Nat.lt_or_ge g w.heap.size with hlt | hge
  · exact hlt
  · simp [World.cell?, Array.getElem?_eq_none hge] at h
theorem Ml.below {w w' : World} (h : Ml w) (hB : Below w.heap.size w w') : Ml w' := by
  obtain ⟨m, hm⟩ := h
  exact ⟨m, (hB.cell (p := ⟨0, 0, none⟩) (cell_lt hm)).trans hm⟩
theorem Ml.drewN {w : World} (h : Ml w) (n : Nat) : Ml (w.drewN n) := h.below (Drn.below ⟨n, rfl⟩)

theorem idx_cons (c b : UInt8) (l : List UInt8) : Lib.index (b :: l) [c] = if b.toNat = c.toNat then 0 else if Lib.index l [c] == -1 then -1 else Lib.index l [c] + 1 := by
  rw [Lib.index]
  have : ([c].isPrefixOf (b :: l) = true) ↔ b.toNat = c.toNat := by
    simp only [List.isPrefixOf, Bool.and_true, beq_iff_eq]
    constructor
    · intro h; rw [h]
    · intro h; exact (UInt8.toNat_inj.1 h).symm
  by_cases h : b.toNat = c.toNat
  · rw [if_pos h, if_pos (this.2 h)]
  · rw [if_neg h, if_neg (fun e => h (this.1 e))]
theorem idx_cut (c : UInt8) : ∀ l : List UInt8, (Lib.index l [c] = -1 ∧ cutb c l = (l, [], false)) ∨ (∃ i : Nat, Lib.index l [c] = i ∧ i < l.length ∧ cutb c l = (l.take i, l.drop (i + 1), true))
  | [] => .inl ⟨rfl, rfl⟩
  | b :: l => by
    rw [idx_cons]
    by_cases h : b.toNat = c.toNat
    · refine .inr ⟨0, by rw [if_pos h]; rfl, by simp, by rw [cutb, if_pos h]; rfl⟩
    · rw [if_neg h, cutb, if_neg h]
      rcases idx_cut c l with ⟨h1, h2⟩ | ⟨i, h1, h2, h3⟩
      · exact .inl ⟨by rw [h1]; rfl, by rw [h2]⟩
      · refine .inr ⟨i + 1, ?_, by simp; omega, by rw [h3]; rfl⟩
        have hn : (((i : Nat) : Int) == -1) = false := by rw [beq_eq_false_iff_ne]; omega
        rw [h1, hn, if_neg (by decide)]
        omega
theorem lib_cut (c : UInt8) (l : List UInt8) : Lib.cut l [c] = cutb c l := by
  unfold Lib.cut
  rcases idx_cut c l with ⟨h1, h2⟩ | ⟨i, h1, _, h3⟩
  · rw [h1, if_neg (by decide), h2]
  · rw [h1, if_pos (by omega), h3]; rfl

/-- the parts between any two signs -/
def splitc (c : UInt8) : List UInt8 → List (List UInt8)
  | [] => [[]]
  | x :: r => if x.toNat = c.toNat then [] :: splitc c r else (x :: (splitc c r).headD []) :: (splitc c r).tail
theorem splitc_cut (c : UInt8) : ∀ l : List UInt8, splitc c l = (cutb c l).1 :: (if (cutb c l).2.2 = true then splitc c (cutb c l).2.1 else [])
  | [] => rfl
  | x :: r => by
    by_cases h : x.toNat = c.toNat
    · rw [splitc, if_pos h, cutb, if_pos h]; rfl
    · rw [splitc, if_neg h, cutb, if_neg h, splitc_cut c r]; rfl
theorem lib_split (c : UInt8) : ∀ (k : Nat) (l : List UInt8), Lib.count l [c] = k → Lib.splitK [c] 0 k l = splitc c l
  | 0, l, hk => by
    rcases idx_cut c l with ⟨_, h2⟩ | ⟨i, h1, _, _⟩
    · rw [splitc_cut, h2]; rfl
    · have := Lib.count_hit (s := l) (sub := [c]) (by simp) h1; omega
  | k + 1, l, hk => by
    rcases idx_cut c l with ⟨h1, _⟩ | ⟨i, h1, _, h3⟩
    · have := Lib.count_miss h1; omega
    · have hc := Lib.count_hit (s := l) (sub := [c]) (by simp) h1
      rw [splitc_cut, h3]
      have hn : ¬ ((((i : Nat) : Int) == -1) = true) := by rw [beq_iff_eq]; omega
      rw [Lib.splitK, h1, if_neg hn]
      have e1 : ((i : Nat) : Int).toNat = i := by omega
      rw [e1, if_pos rfl]
      show l.take (i + 0) :: _ = _
      rw [Nat.add_zero]
      congr 1
      exact lib_split c k _ (by have : (l.drop (i + [c].length)) = l.drop (i + 1) := rfl; rw [this] at hc; show Lib.count (l.drop (i + 1)) [c] = k; omega)

theorem one_data (c : UInt8) : (⟨#[c]⟩ : ByteArray).data.toList = [c] := rfl

theorem cut_c (s : ByteArray) (hs : s.size < 4294967281) (c : UInt8) (w : World) (hm : Ml w) :
    Calls Tryz.prog 47 #[.string s, .string ⟨#[c]⟩] w fun e w' => e = .returned (.tuple #[.string (bs (cutb c (us s)).1), .string (bs (cutb c (us s)).2.1), .bool (cutb c (us s)).2.2]) ∧ Drn w w' := by
  obtain ⟨m, hm⟩ := hm
  refine (Tryz.strings_Cut s ⟨#[c]⟩ m w hs hm).mono ?_
  rintro e w' ⟨rfl, h⟩
  refine ⟨?_, h⟩
  rw [one_data, lib_cut]; rfl
/-- does a text begin with a sign? -/
def opens (c : UInt8) (l : List UInt8) : Bool := match l with | [] => false | x :: _ => x.toNat == c.toNat
theorem prefix_c (s : ByteArray) (c : UInt8) (w : World) :
    Calls Tryz.prog 104 #[.string s, .string ⟨#[c]⟩] w fun e w' => e = .returned (.bool (opens c (us s))) ∧ w = w' := by
  refine (Tryz.strings_HasPrefix s ⟨#[c]⟩ w).mono ?_
  rintro e w' ⟨rfl, rfl⟩
  refine ⟨?_, rfl⟩
  rw [one_data]
  unfold Lib.hasPrefix us opens
  cases s.data.toList with
  | nil => rfl
  | cons x r =>
    simp only [List.isPrefixOf, Bool.and_true]
    rw [show (c == x) = (x.toNat == c.toNat) from by
      rw [Bool.eq_iff_iff, beq_iff_eq, beq_iff_eq]; exact ⟨fun h => by rw [h], fun h => (UInt8.toNat_inj.1 h).symm⟩]
theorem split_c (s : ByteArray) (hs : s.size < 4294967281) (c : UInt8) (w : World) (hm : Ml w) :
    Calls Tryz.prog 111 #[.string s, .string ⟨#[c]⟩] w fun e w' => ∃ v, e = .returned v ∧ RStrs w' v (splitc c (us s)) ∧ Below w.heap.size w w' := by
  obtain ⟨m, hm⟩ := hm
  refine (Tryz.strings_Split s ⟨#[c]⟩ m w hs hm (Nat.le_refl 1)).mono ?_
  rintro e w' ⟨rfl, rfl⟩
  refine ⟨_, rfl, ?_, (Below.refl _ _).alloc (Nat.le_refl _) _⟩
  have hd := Lib.splitB_data ⟨#[c]⟩ 0 (Lib.countB s ⟨#[c]⟩) s
  have hk : Lib.splitK [c] 0 (Lib.countB s ⟨#[c]⟩) s.data.toList = splitc c (us s) := lib_split c _ _ rfl
  rw [one_data, hk] at hd
  have hl : Lib.countB s ⟨#[c]⟩ + 1 = (splitc c (us s)).length := by
    rw [← hd, List.length_map, Lib.splitB_all ⟨#[c]⟩ (Nat.le_refl 1) 0 _ s rfl]
  have hsm : Lib.countB s ⟨#[c]⟩ ≤ s.size := Lib.countB_le ⟨#[c]⟩ (Nat.le_refl 1) _ s (Nat.le_refl _)
  rw [hl]
  refine .inr ⟨w.heap.size, 0, _, rfl, Nat.le_refl _, by rw [← hl]; unfold maxLen; omega, by rw [World.size_alloc]; exact Nat.lt_succ_self _, fun j u hj => ?_⟩
  rw [World.cell?_alloc_at _ _ _ _ rfl]
  rw [← hd, List.map_map] at hj
  simpa [sv, bs, Function.comp_def] using hj
end

section
open Go.RowKit

def sixb (c : UInt8) : Bool := (c.toNat == 58) || (c.toNat == 46) || testc 4 c
def inner (l : List UInt8) (k : Nat) : List UInt8 := (l.take k).drop 1
def colons (l : List UInt8) : Nat := (l.filter fun c => c.toNat == 58).length
/-- an address of IPv6 in brackets, as far as its signs go (the first bracket apart) -/
def sixS (l : List UInt8) : Bool := decide (4 ≤ l.length) && (l.getLast? == some 93) && (inner l (l.length - 1)).all sixb && decide (2 ≤ colons (inner l (l.length - 1)))
def label (p : List UInt8) : Bool := decide (1 ≤ p.length) && allc 64 p && !(p.head? == some 45) && !(p.getLast? == some 45)
def hostS (l : List UInt8) : Bool := decide (1 ≤ l.length) && decide (l.length ≤ 64) && (lowr l == l) && (if l.head? == some 91 then sixS l else (splitc 46 l).all label)

theorem inner_one (l : List UInt8) : inner l 1 = [] := by unfold inner; cases l <;> rfl
theorem inner_step (s : ByteArray) (k : Nat) (h0 : 1 ≤ k) (h : k < s.size) : inner (us s) (k + 1) = inner (us s) k ++ [s[k]] := by
  unfold inner
  rw [take_us s k h, List.drop_append_of_le_length]
  rw [List.length_take, length_us]; omega
theorem all_testc (a b : Int) (h : ∀ n : Fin 256, testc a (UInt8.ofNat n.val) = testc b (UInt8.ofNat n.val)) (l : List UInt8) : allc a l = allc b l := by
  unfold allc
  have : testc a = testc b := funext fun c => all_bytes (fun c => testc a c = testc b c) h c
  rw [this]
theorem allc_67 (l : List UInt8) : allc 67 l = allc 64 l := all_testc 67 64 (by decide +kernel) l

theorem sixb_colon (c : UInt8) (h : c.toNat = 58) : sixb c = true := by unfold sixb; simp [h]
theorem sixb_dot (c : UInt8) (h : c.toNat = 46) : sixb c = true := by unfold sixb; simp [h]
theorem sixb_hex (c : UInt8) (h : testc 4 c = true) : sixb c = true := by unfold sixb; simp [h]
theorem sixb_no (c : UInt8) (h1 : ¬ c.toNat = 58) (h2 : ¬ c.toNat = 46) (h3 : testc 4 c = false) : sixb c = false := by unfold sixb; simp [h1, h2, h3]
theorem inner_bad (s : ByteArray) (k : Nat) (h0 : 1 ≤ k) (h : k + 1 < s.size) (hb : sixb s[k] = false) : (inner (us s) (s.size - 1)).all sixb = false := by
  rw [← Bool.not_eq_true, List.all_eq_true]
  intro hall
  have hm : s[k] ∈ inner (us s) (s.size - 1) := by
    unfold inner
    refine List.mem_of_getElem? (i := k - 1) ?_
    rw [List.getElem?_drop, List.getElem?_take_of_lt (by omega), show 1 + (k - 1) = k from by omega, get_us s k (by omega)]
  have := hall _ hm
  rw [hb] at this; cases this
theorem inner_all (s : ByteArray) (k : Nat) (h0 : 1 ≤ k) (h : k < s.size) (hb : sixb s[k] = true) (hp : (inner (us s) k).all sixb = true) : (inner (us s) (k + 1)).all sixb = true := by
  rw [inner_step s k h0 h, List.all_append, hp]; simp [hb]
theorem colons_yes (s : ByteArray) (k : Nat) (h0 : 1 ≤ k) (h : k < s.size) (hb : s[k].toNat = 58) : colons (inner (us s) (k + 1)) = colons (inner (us s) k) + 1 := by
  rw [inner_step s k h0 h]; unfold colons; simp [hb]
theorem colons_no (s : ByteArray) (k : Nat) (h0 : 1 ≤ k) (h : k < s.size) (hb : ¬ s[k].toNat = 58) : colons (inner (us s) (k + 1)) = colons (inner (us s) k) := by
  rw [inner_step s k h0 h]; unfold colons; simp [hb]
theorem colons_le (l : List UInt8) (k : Nat) : colons (inner l k) ≤ l.length := by
  unfold colons inner
  refine Nat.le_trans (List.length_filter_le _ _) ?_
  rw [List.length_drop, List.length_take]; omega
theorem sixS_short (l : List UInt8) (h : l.length < 4) : sixS l = false := by unfold sixS; rw [show decide (4 ≤ l.length) = false from decide_eq_false (by omega)]; simp
theorem last_us (s : ByteArray) (h : 0 < s.size) : (us s).getLast? = some s[s.size - 1] := by
  rw [List.getLast?_eq_getElem?, length_us, get_us s _ (by omega)]
theorem last_is (s : ByteArray) (h : 0 < s.size) (n : Nat) (hn : n < 256) : ((us s).getLast? == some (UInt8.ofNat n)) = decide (s[s.size - 1].toNat = n) := by
  rw [last_us s h, Bool.eq_iff_iff, beq_iff_eq, decide_eq_true_iff]
  constructor
  · intro e; injection e with e; rw [e]; simp; omega
  · intro e; rw [← e]; simp
theorem head_is (s : ByteArray) (h : 0 < s.size) (n : Nat) (hn : n < 256) : ((us s).head? == some (UInt8.ofNat n)) = decide (s[0].toNat = n) := by
  rw [List.head?_eq_getElem?, get_us s 0 h, Bool.eq_iff_iff, beq_iff_eq, decide_eq_true_iff]
  constructor
  · intro e; injection e with e; rw [e]; simp; omega
  · intro e; rw [← e]; simp
theorem sixS_last (s : ByteArray) (h : 0 < s.size) (hl : ¬ s[s.size - 1].toNat = 93) : sixS (us s) = false := by
  unfold sixS
  have : ((us s).getLast? == some 93) = false := (last_is s h 93 (by decide)).trans (decide_eq_false hl)
  rw [this]; simp
theorem sixS_bad (s : ByteArray) (hb : (inner (us s) (s.size - 1)).all sixb = false) : sixS (us s) = false := by
  unfold sixS; rw [length_us, hb]; simp
theorem sixS_end (s : ByteArray) (h : 4 ≤ s.size) (hl : s[s.size - 1].toNat = 93) (hb : (inner (us s) (s.size - 1)).all sixb = true) : sixS (us s) = decide (2 ≤ colons (inner (us s) (s.size - 1))) := by
  unfold sixS
  have h1 : ((us s).getLast? == some 93) = true := (last_is s (by omega) 93 (by decide)).trans (decide_eq_true hl)
  rw [length_us, h1, hb]; simp [h]

set_option maxHeartbeats 800000 in
theorem six_c (s : ByteArray) (hs : s.size ≤ 4294967280) (w : World) :
    Calls Tryz.prog 179 #[.string s] w fun e w' => e = .returned (.bool (sixS (us s))) ∧ w = w' := by
  by_cases h4 : s.size < 4
  · have HN := Lib.hid (sixS_short (us s) (by rw [length_us]; exact h4))
    go_enter Tryz.func179, Tryz.ntmps179
    go_wp2
    go_ret
    exact ⟨ret_bool (by rw [HN.out]), rfl⟩
  have q1 : s.size - 1 < s.size := by omega
  have q2 : (0 : Int) ≤ (s.size : Int) - 1 := by omega
  have q3 : ((s.size : Int) - 1).toNat = s.size - 1 := by omega
  by_cases hl : s[s.size - 1].toNat = 93
  · have t1 : ((s[s.size - 1].toNat : Int) != 93) = false := by simp [hl]
    have HE := Lib.hid (sixS_end s (by omega) hl)
    clear hl
    go_enter Tryz.func179, Tryz.ntmps179
    go_wp2
    go_loop [3, 4] (fun n i => ∃ k : Nat, 1 ≤ k ∧ k + 1 ≤ s.size ∧ i = .int .i64 k ∧ n = .int .i64 (colons (inner (us s) k) : Nat) ∧ (inner (us s) k).all sixb = true) (fun _ i => s.size - (intOf i).toNat)
    case atStart => exact ⟨1, Nat.le_refl _, by omega, rfl, by rw [inner_one]; rfl, by rw [inner_one]; rfl⟩
    case round =>
      obtain ⟨k, hk0, hk, rfl, rfl, hb⟩ := hrel
      have HB := Lib.hid hb; clear hb
      have hcl : colons (inner (us s) k) ≤ s.size := by rw [← length_us]; exact colons_le _ _
      by_cases hlt : k + 1 < s.size
      · by_cases c1 : s[k].toNat = 58
        · have a1 : ((s[k].toNat : Int) == 58) = true := by simp [c1]
          have HA := Lib.hid (inner_all s k hk0 (by omega) (sixb_colon _ c1) HB.out)
          have HC := Lib.hid (colons_yes s k hk0 (by omega) c1)
          clear c1
          go_wp2
          go_round
          case rel => exact ⟨k + 1, by omega, by omega, by go_num, by rw [HC.out]; go_num, HA.out⟩
          case measure => simp [intOf]; omega
        · have a1 : ((s[k].toNat : Int) == 58) = false := by simp; omega
          have HC := Lib.hid (colons_no s k hk0 (by omega) c1)
          by_cases c2 : s[k].toNat = 46
          · have a2 : ((s[k].toNat : Int) != 46) = false := by simp [c2]
            have HA := Lib.hid (inner_all s k hk0 (by omega) (sixb_dot _ c2) HB.out)
            clear c1 c2
            go_wp2
            go_round
            case rel => exact ⟨k + 1, by omega, by omega, by go_num, by rw [HC.out], HA.out⟩
            case measure => simp [intOf]; omega
          · have a2 : ((s[k].toNat : Int) != 46) = true := by simp; omega
            by_cases ht : (bits BinOp.and IntKind.i64 (cls s[k]) 4 == 0) = true
            · have HN := Lib.hid (sixS_bad s (inner_bad s k hk0 hlt (sixb_no _ c1 c2 (testc_t 4 _ ht))))
              clear c1 c2
              go_wp2_with (go_at_call 92; refine (class_c _ _).mono ?_; rintro e w' ⟨rfl, rfl⟩)
              go_ret
              exact ⟨ret_bool (by rw [HN.out]), rfl⟩
            · have ht' : (bits BinOp.and IntKind.i64 (cls s[k]) 4 == 0) = false := by simpa using ht
              clear ht
              have HA := Lib.hid (inner_all s k hk0 (by omega) (sixb_hex _ (testc_f 4 _ ht')) HB.out)
              clear c1 c2
              go_wp2_with (go_at_call 92; refine (class_c _ _).mono ?_; rintro e w' ⟨rfl, rfl⟩)
              go_round
              case rel => exact ⟨k + 1, by omega, by omega, by go_num, by rw [HC.out], HA.out⟩
              case measure => simp [intOf]; omega
      · obtain rfl : k = s.size - 1 := by omega
        have HX := Lib.hid (HE.out HB.out)
        go_wp2
        go_ret
        exact ⟨ret_bool (by rw [HX.out]; simp; omega), rfl⟩
  · have t1 : ((s[s.size - 1].toNat : Int) != 93) = true := by simp; omega
    have HN := Lib.hid (sixS_last s (by omega) hl)
    clear hl
    go_enter Tryz.func179, Tryz.ntmps179
    go_wp2
    go_ret
    exact ⟨ret_bool (by rw [HN.out]), rfl⟩
end

section
open Go.RowKit

theorem label_zero (P : ByteArray) (h : P.size = 0) : label (us P) = false := by
  unfold label; rw [length_us, h]; rfl
theorem label_all (P : ByteArray) (h : allc 64 (us P) = false) : label (us P) = false := by
  unfold label; rw [h]; simp
theorem label_head (P : ByteArray) (h : 0 < P.size) (hb : P[0].toNat = 45) : label (us P) = false := by
  unfold label
  have : ((us P).head? == some 45) = true := (head_is P h 45 (by decide)).trans (decide_eq_true hb)
  rw [this]; simp
theorem label_last (P : ByteArray) (h : 0 < P.size) (hb : P[P.size - 1].toNat = 45) : label (us P) = false := by
  unfold label
  have : ((us P).getLast? == some 45) = true := (last_is P h 45 (by decide)).trans (decide_eq_true hb)
  rw [this]; simp
theorem label_yes (P : ByteArray) (h : 0 < P.size) (ha : allc 64 (us P) = true) (h0 : ¬ P[0].toNat = 45) (h1 : ¬ P[P.size - 1].toNat = 45) : label (us P) = true := by
  unfold label
  have e0 : ((us P).head? == some 45) = false := (head_is P h 45 (by decide)).trans (decide_eq_false h0)
  have e1 : ((us P).getLast? == some 45) = false := (last_is P h 45 (by decide)).trans (decide_eq_false h1)
  rw [ha, e0, e1, length_us]; simp; omega
theorem host_no (l : List UInt8) (h : l.length = 0 ∨ 64 < l.length ∨ ¬ lowr l = l) : hostS l = false := by
  unfold hostS
  rcases h with h | h | h
  · rw [h]; rfl
  · rw [show decide (l.length ≤ 64) = false from decide_eq_false (by omega)]; simp
  · rw [show (lowr l == l) = false from by rw [beq_eq_false_iff_ne]; exact h]; simp
theorem host_six (s : ByteArray) (h0 : 0 < s.size) (h1 : s.size ≤ 64) (hl : lowr (us s) = us s) (hb : s[0].toNat = 91) : hostS (us s) = sixS (us s) := by
  unfold hostS
  have e0 : ((us s).head? == some 91) = true := (head_is s h0 91 (by decide)).trans (decide_eq_true hb)
  rw [e0, if_pos rfl, hl, length_us]; simp; omega
theorem host_split (s : ByteArray) (h0 : 0 < s.size) (h1 : s.size ≤ 64) (hl : lowr (us s) = us s) (hb : ¬ s[0].toNat = 91) : hostS (us s) = (splitc 46 (us s)).all label := by
  unfold hostS
  have e0 : ((us s).head? == some 91) = false := (head_is s h0 91 (by decide)).trans (decide_eq_false hb)
  rw [e0, if_neg (by decide), hl, length_us]; simp; omega
theorem labels_bad (L : List (List UInt8)) (k : Nat) (h : k < L.length) (hb : label L[k] = false) : L.all label = false := by
  rw [← Bool.not_eq_true, List.all_eq_true]
  intro hall
  have := hall _ (List.getElem_mem h)
  rw [hb] at this; cases this
theorem labels_next (L : List (List UInt8)) (k : Nat) (h : k < L.length) (hb : label L[k] = true) (hp : (L.take k).all label = true) : (L.take (k + 1)).all label = true := by
  rw [List.take_succ_eq_append_getElem h, List.all_append, hp]; simp [hb]
theorem splitc_bd (c : UInt8) : ∀ l : List UInt8, ∀ p ∈ splitc c l, p.length ≤ l.length
  | [], p, h => by simp [splitc] at h; rw [h]; exact Nat.le_refl _
  | x :: r, p, h => by
    rw [splitc] at h
    split at h
    · rcases List.mem_cons.1 h with rfl | h
      · simp
      · have := splitc_bd c r p h; simp; omega
    · rcases List.mem_cons.1 h with rfl | h
      · have := splitc_bd c r ((splitc c r).headD []) (by
          rw [splitc_cut]; simp)
        rw [List.length_cons, List.length_cons]; omega
      · have := splitc_bd c r p (List.mem_of_mem_tail h); simp; omega

set_option maxHeartbeats 1600000 in
theorem host_c (s : ByteArray) (hs : s.size ≤ 4294967280) (w : World) (hm : Ml w) :
    Calls Tryz.prog 141 #[.string s] w fun e w' => e = .returned (.bool (hostS (us s))) ∧ Below w.heap.size w w' := by
  have hR : Below w.heap.size w w := Below.refl _ _
  by_cases hz : s.size = 0
  · have HN := Lib.hid (host_no (us s) (.inl (by rw [length_us]; exact hz)))
    obtain rfl := eq_empty hz
    go_enter Tryz.func141, Tryz.ntmps141
    go_wp2
    all_goals
      go_ret
      exact ⟨ret_bool (by rw [HN.out]), hR⟩
  have hE := ne_empty hz
  have hF := isEmpty_f hz
  by_cases h64 : 64 < s.size
  · have HN := Lib.hid (host_no (us s) (.inr (.inl (by rw [length_us]; exact h64))))
    go_enter Tryz.func141, Tryz.ntmps141
    go_wp2
    all_goals
      go_ret
      exact ⟨ret_bool (by rw [HN.out]), hR⟩
  have HL := Lib.hid (fun wx => lowerP_c s (by omega) wx)
  by_cases hlow : lowr (us s) = us s
  case neg =>
    have HN := Lib.hid (host_no (us s) (.inr (.inr hlow)))
    obtain ⟨t, ht⟩ : ∃ t, t = bs (lowr (us s)) := ⟨_, rfl⟩
    have hne : (t.toList == s.toList) = false := by
      rw [toList_us, toList_us, ht, us_bs, beq_eq_false_iff_ne]; exact hlow
    rw [← ht] at HL
    clear ht hlow
    go_enter Tryz.func141, Tryz.ntmps141
    go_wp2_with (go_at_call 96; refine (HL.out _).mono ?_; rintro e w1 ⟨rfl, hC⟩)
    go_ret
    exact ⟨ret_bool (by rw [HN.out]), hC⟩
  case pos =>
    rw [hlow, bs_us] at HL
    have h0 : 0 < s.size := by omega
    by_cases hb : s[0].toNat = 91
    · have HN := Lib.hid (host_six s h0 (by omega) hlow hb)
      have H6 := Lib.hid (fun wx => six_c s hs wx)
      have t1 : ((s[0].toNat : Int) == 91) = true := by simp [hb]
      clear hlow hb
      go_enter Tryz.func141, Tryz.ntmps141
      go_wp2_with (first | (go_at_call 96; refine (HL.out _).mono ?_; rintro e w1 ⟨rfl, hC⟩) | (go_at_call 179; refine (H6.out _).mono ?_; rintro e w2 ⟨rfl, rfl⟩))
      go_ret
      exact ⟨ret_bool (by rw [HN.out]), hC⟩
    · have HN := Lib.hid (host_split s h0 (by omega) hlow hb)
      have H6 := Lib.hid (fun wx hx => split_c s (by omega) 46 wx hx)
      have t1 : ((s[0].toNat : Int) == 91) = false := by simp; omega
      have HBD := Lib.hid (fun p hp => Nat.le_trans (splitc_bd 46 (us s) p hp) (by rw [length_us]; exact hs))
      clear hlow hb
      obtain ⟨L, hL⟩ : ∃ L, L = splitc 46 (us s) := ⟨_, rfl⟩
      rw [← hL] at HN H6 HBD
      clear hL
      have HM := Lib.hid hm
      clear hm
      go_enter Tryz.func141, Tryz.ntmps141
      go_wp2_with (first | (go_at_call 96; refine (HL.out _).mono ?_; rintro e w1 ⟨rfl, hC⟩) | (go_at_call 111; refine (H6.out _ (HM.out.below hC)).mono ?_; rintro e w2 ⟨v, rfl, hv, hC2⟩; obtain ⟨ao, cap, rfl, hm1, c1⟩ := hv.form; have C1 := Lib.hid c1; clear c1 hv; have HW := Lib.hid (hC.trans (hC2.mono hC.size)); clear hC hC2))
      unfold maxLen at hm1
      go_loop [26] (fun i => ∃ k : Nat, k ≤ L.length ∧ i = .int .i64 k ∧ (L.take k).all label = true) (fun i => L.length - (intOf i).toNat)
      case atStart => exact ⟨0, Nat.zero_le _, rfl, rfl⟩
      case round =>
        obtain ⟨k, hk, rfl, hb⟩ := hrel
        have HB := Lib.hid hb; clear hb
        by_cases hlt : k < L.length
        · obtain ⟨b, off, rfl, hb1, hc1⟩ := C1.out (by omega)
          have x1 := hc1 k hlt
          have k0 : (0 : Int) ≤ (k : Int) := by omega
          have k1 : (k : Int) < (L.length : Int) := by omega
          clear hc1
          have HX := Lib.hid (fun h => HN.out.trans (labels_bad L k hlt h))
          have HY := Lib.hid (fun h => labels_next L k hlt h HB.out)
          have hps := HBD.out _ (List.getElem_mem hlt)
          obtain ⟨P, hP⟩ : ∃ P, P = bs L[k] := ⟨_, rfl⟩
          have hPu : L[k] = us P := by rw [hP]; simp
          rw [← hP] at x1
          rw [hPu] at HX HY hps
          rw [length_us] at hps
          clear hP hPu
          have HA := Lib.hid (fun wx => all_c P (by omega) 67 wx)
          rw [allc_67] at HA
          by_cases pz : P.size = 0
          · have HF := Lib.hid (HX.out (label_zero P pz))
            obtain rfl := eq_empty pz
            go_wp2
            all_goals
              go_ret
              exact ⟨ret_bool (by rw [HF.out]), HW.out⟩
          have pE := ne_empty pz
          have pF := isEmpty_f pz
          have p0 : 0 < P.size := by omega
          cases ha : allc 64 (us P) with
          | false =>
            have HF := Lib.hid (HX.out (label_all P ha))
            rw [ha] at HA; clear ha
            go_wp2_with (go_at_call 78; refine (HA.out _).mono ?_; rintro e w3 ⟨rfl, rfl⟩)
            go_ret
            exact ⟨ret_bool (by rw [HF.out]), HW.out⟩
          | true =>
            by_cases d0 : P[0].toNat = 45
            · have HF := Lib.hid (HX.out (label_head P p0 d0))
              have t2 : ((P[0].toNat : Int) == 45) = true := by simp [d0]
              rw [ha] at HA; clear ha d0
              go_wp2_with (go_at_call 78; refine (HA.out _).mono ?_; rintro e w3 ⟨rfl, rfl⟩)
              go_ret
              exact ⟨ret_bool (by rw [HF.out]), HW.out⟩
            have t2 : ((P[0].toNat : Int) == 45) = false := by simp; omega
            have q1 : P.size - 1 < P.size := by omega
            have q2 : (0 : Int) ≤ (P.size : Int) - 1 := by omega
            have q3 : ((P.size : Int) - 1).toNat = P.size - 1 := by omega
            by_cases d1 : P[P.size - 1].toNat = 45
            · have HF := Lib.hid (HX.out (label_last P p0 d1))
              have t3 : ((P[P.size - 1].toNat : Int) == 45) = true := by simp [d1]
              rw [ha] at HA; clear ha d0 d1
              go_wp2_with (go_at_call 78; refine (HA.out _).mono ?_; rintro e w3 ⟨rfl, rfl⟩)
              go_ret
              exact ⟨ret_bool (by rw [HF.out]), HW.out⟩
            · have t3 : ((P[P.size - 1].toNat : Int) == 45) = false := by simp; omega
              have HG := Lib.hid (HY.out (label_yes P p0 ha d0 d1))
              rw [ha] at HA; clear ha d0 d1
              go_wp2_with (go_at_call 78; refine (HA.out _).mono ?_; rintro e w3 ⟨rfl, rfl⟩)
              go_round
              case rel => exact ⟨k + 1, by omega, by go_num, HG.out⟩
              case measure => simp [intOf]; omega
        · have hE2 : L.take k = L := List.take_of_length_le (by omega)
          rw [hE2] at HB
          clear hE2
          go_wp2
          go_ret
          exact ⟨ret_bool (by rw [HN.out, HB.out]), HW.out⟩
end

section
open Go.RowKit

theorem cutb_len (c : UInt8) : ∀ l : List UInt8, (cutb c l).2.2 = true → (cutb c l).1.length + (cutb c l).2.1.length + 1 = l.length
  | [], h => by cases h
  | x :: r, h => by
    by_cases hx : x.toNat = c.toNat
    · rw [cutb, if_pos hx]; simp
    · rw [cutb, if_neg hx] at h ⊢
      have := cutb_len c r h
      simp; omega
theorem cutb_le (c : UInt8) : ∀ l : List UInt8, (cutb c l).1.length ≤ l.length ∧ (cutb c l).2.1.length ≤ l.length
  | [] => ⟨Nat.le_refl _, Nat.le_refl _⟩
  | x :: r => by
    by_cases hx : x.toNat = c.toNat
    · rw [cutb, if_pos hx]; simp
    · rw [cutb, if_neg hx]
      have := cutb_le c r
      simp; omega
theorem splitc_len (c : UInt8) : ∀ l : List UInt8, (splitc c l).length ≤ l.length + 1
  | [] => Nat.le_refl _
  | x :: r => by
    have := splitc_len c r
    have h1 : 1 ≤ (splitc c r).length := by rw [splitc_cut]; simp
    rw [splitc]; split <;> simp <;> omega
/-- what is left to split -/
def more (c : UInt8) (l : List UInt8) (m : Bool) : List (List UInt8) := if m = true then splitc c l else []
def moreN (s m : Value) : Nat := match s, m with | .string x, .bool true => x.size + 1 | _, _ => 0

set_option maxHeartbeats 800000 in
theorem splitR_c (s : ByteArray) (hs : s.size ≤ 4294967280) (c : UInt8) (w : World) :
    Calls Tryz.prog 127 #[.string s, .int .u8 c.toNat] w fun e w' => ∃ v, e = .returned v ∧ RStrs w' v (splitc c (us s)) ∧ Below w.heap.size w w' := by
  have hlen := splitc_len c (us s)
  rw [length_us] at hlen
  go_enter Tryz.func127, Tryz.ntmps127
  go_wp2
  go_loopw [0, 5, 6] (fun t v m wr => ∃ (r : ByteArray) (b : Bool) (L : List (List UInt8)), r.size ≤ s.size ∧ t = .string r ∧ m = .bool b ∧ Strs wr w.heap.size 9 v L ∧ splitc c (us s) = L ++ more c (us r) b ∧ Below w.heap.size w wr) (fun t _ m _ => moreN t m)
  case atStart => exact ⟨s, true, [], Nat.le_refl _, rfl, rfl, Strs.nil _ _ _, rfl, Below.refl _ _⟩
  case round =>
    obtain ⟨r, b, L, hr, rfl, rfl, hown, hp, hB⟩ := hrel
    have HO := Lib.hid hown; clear hown
    cases b with
    | false =>
      have HP := Lib.hid (show splitc c (us s) = L by rw [hp]; simp [more])
      clear hp
      go_wp2
      go_ret
      exact ⟨_, rfl, HP.out ▸ HO.out.read, hB⟩
    | true =>
      have hsp : splitc c (us s) = (L ++ [(cutb c (us r)).1]) ++ more c (cutb c (us r)).2.1 (cutb c (us r)).2.2 := by
        rw [hp]; unfold more; rw [if_pos rfl, splitc_cut]; simp
      have hl : (L.length + 1) * 16 ≤ 140737488355328 := by
        have := congrArg List.length hsp
        rw [List.length_append, List.length_append] at this
        simp at this
        omega
      have HCT := Lib.hid (fun wx => cutR_c r (by omega) c wx)
      have hc1 := (cutb_le c (us r)).2
      have hc2 := cutb_len c (us r)
      rw [length_us] at hc1 hc2
      have HC2 := Lib.hid hc2
      clear hp hc2
      obtain ⟨p, hpp⟩ : ∃ p, p = cutb c (us r) := ⟨_, rfl⟩
      rw [← hpp] at hsp HCT hc1 HC2
      clear hpp
      obtain ⟨a, q, m⟩ := p
      have HS := Lib.hid hsp
      clear hsp
      have HB := Lib.hid hB
      clear hB
      go_wp2_with (first | (go_at_call 122; refine (HCT.out _).mono ?_; rintro e w1 ⟨rfl, hD⟩; have ho1 := HO.out.below (hD.below (B := wr.heap.size)) (Nat.le_refl _); have hb1 := HB.out.trans (hD.below (B := w.heap.size))) | (at_builtin; refine wpList_appS1 a (us_bs _) rfl rfl Tryz.underlying30 infoS rfl rfl ho1 hb1 (Nat.le_refl _) ?_ ?_; (focus omega); intro v2 w2 ho2 hb2))
      go_roundw
      case rel => exact ⟨bs q, m, L ++ [a], by rw [size_bs]; omega, rfl, rfl, ho2, by rw [us_bs]; exact HS.out, hb2⟩
      case measure =>
        have := HC2.out
        cases m
        · simp [moreN]
        · have h2 := this rfl
          simp [moreN, size_bs] at h2 ⊢; omega
end

section
open Go.RowKit

set_option maxRecDepth 100000 in
set_option maxHeartbeats 1600000 in
theorem hostR_six (s : ByteArray) (h1 : 1 ≤ s.size) (h64 : s.size ≤ 64) (hb : s[0].toNat = 91) (hlow : lowr (us s) = us s) (w : World) :
    Calls Tryz.prog 165 #[.string s] w fun e w' => e = .returned (.bool (sixS (us s))) ∧ Below w.heap.size w w' := by
  have HL := Lib.hid (fun wx => lowerR_c s (by omega) wx)
  rw [hlow, bs_us] at HL
  have t1 : ((s[0].toNat : Int) == 91) = true := by simp [hb]
  have hz : ((s.size : Int) == 0) = false := by rw [beq_eq_false_iff_ne]; omega
  clear hlow hb
  go_enter Tryz.func165, Tryz.ntmps165
  go_wp2_with (go_at_call 123; refine (HL.out _).mono ?_; rintro e w1 ⟨rfl, hC⟩)
  go_loop [3, 4] (fun n i => ∃ k : Nat, 1 ≤ k ∧ (k = 1 ∨ k + 1 ≤ s.size) ∧ i = .int .i64 k ∧ n = .int .i64 (colons (inner (us s) k) : Nat) ∧ (inner (us s) k).all sixb = true) (fun _ i => s.size - (intOf i).toNat)
  case atStart => exact ⟨1, Nat.le_refl _, .inl rfl, rfl, by rw [inner_one]; rfl, by rw [inner_one]; rfl⟩
  case round =>
    obtain ⟨k, hk0, hk, rfl, rfl, hb⟩ := hrel
    have HB := Lib.hid hb; clear hb
    have hcl : colons (inner (us s) k) ≤ s.size := by rw [← length_us]; exact colons_le _ _
    by_cases hlt : k + 1 < s.size
    · by_cases c1 : s[k].toNat = 58
      · have a1 : ((s[k].toNat : Int) == 58) = true := by simp [c1]
        have HA := Lib.hid (inner_all s k hk0 (by omega) (sixb_colon _ c1) HB.out)
        have HC := Lib.hid (colons_yes s k hk0 (by omega) c1)
        clear c1
        go_wp2
        go_round
        case rel => exact ⟨k + 1, by omega, by omega, by go_num, by rw [HC.out]; go_num, HA.out⟩
        case measure => simp [intOf]; omega
      · have a1 : ((s[k].toNat : Int) == 58) = false := by simp; omega
        have HC := Lib.hid (colons_no s k hk0 (by omega) c1)
        by_cases c2 : s[k].toNat = 46
        · have a2 : ((s[k].toNat : Int) != 46) = false := by simp [c2]
          have HA := Lib.hid (inner_all s k hk0 (by omega) (sixb_dot _ c2) HB.out)
          clear c1 c2
          go_wp2
          go_round
          case rel => exact ⟨k + 1, by omega, by omega, by go_num, by rw [HC.out], HA.out⟩
          case measure => simp [intOf]; omega
        · have a2 : ((s[k].toNat : Int) != 46) = true := by simp; omega
          by_cases ht : (bits BinOp.and IntKind.i64 (cls s[k]) 4 == 0) = true
          · have HN := Lib.hid (sixS_bad s (inner_bad s k hk0 hlt (sixb_no _ c1 c2 (testc_t 4 _ ht))))
            clear c1 c2
            go_wp2_with (go_at_call 162; refine (classR_c _ _).mono ?_; rintro e w' ⟨rfl, rfl⟩)
            go_ret
            exact ⟨ret_bool (by rw [HN.out]), hC⟩
          · have ht' : (bits BinOp.and IntKind.i64 (cls s[k]) 4 == 0) = false := by simpa using ht
            clear ht
            have HA := Lib.hid (inner_all s k hk0 (by omega) (sixb_hex _ (testc_f 4 _ ht')) HB.out)
            clear c1 c2
            go_wp2_with (go_at_call 162; refine (classR_c _ _).mono ?_; rintro e w' ⟨rfl, rfl⟩)
            go_round
            case rel => exact ⟨k + 1, by omega, by omega, by go_num, by rw [HC.out], HA.out⟩
            case measure => simp [intOf]; omega
    · by_cases h4 : s.size < 4
      · have HN := Lib.hid (sixS_short (us s) (by rw [length_us]; exact h4))
        go_wp2
        all_goals
          go_ret
          exact ⟨ret_bool (by rw [HN.out]; try (simp; omega)), hC⟩
      · obtain rfl : k = s.size - 1 := by omega
        have q1 : s.size - 1 < s.size := by omega
        have q2 : (0 : Int) ≤ (s.size : Int) - 1 := by omega
        have q3 : ((s.size : Int) - 1).toNat = s.size - 1 := by omega
        by_cases hl : s[s.size - 1].toNat = 93
        · have HX := Lib.hid (sixS_end s (by omega) hl HB.out)
          have t2 : ((s[s.size - 1].toNat : Int) == 93) = true := by simp [hl]
          clear hl
          go_wp2
          all_goals
            go_ret
            exact ⟨ret_bool (by rw [HX.out]; simp; omega), hC⟩
        · have HN := Lib.hid (sixS_last s (by omega) hl)
          have t2 : ((s[s.size - 1].toNat : Int) == 93) = false := by simp; omega
          clear hl
          go_wp2
          all_goals
            go_ret
            exact ⟨ret_bool (by rw [HN.out]), hC⟩

set_option maxRecDepth 100000 in
set_option maxHeartbeats 1600000 in
theorem hostR_c (s : ByteArray) (hs : s.size ≤ 4294967280) (w : World) :
    Calls Tryz.prog 165 #[.string s] w fun e w' => e = .returned (.bool (hostS (us s))) ∧ Below w.heap.size w w' := by
  have hR : Below w.heap.size w w := Below.refl _ _
  by_cases hz : s.size = 0
  · have HN := Lib.hid (host_no (us s) (.inl (by rw [length_us]; exact hz)))
    have hz' : ((s.size : Int) == 0) = true := by simp [hz]
    clear hz
    go_enter Tryz.func165, Tryz.ntmps165
    go_wp2
    all_goals
      go_ret
      exact ⟨ret_bool (by rw [HN.out]), hR⟩
  have hz' : ((s.size : Int) == 0) = false := by rw [beq_eq_false_iff_ne]; omega
  by_cases h64 : 64 < s.size
  · have HN := Lib.hid (host_no (us s) (.inr (.inl (by rw [length_us]; exact h64))))
    go_enter Tryz.func165, Tryz.ntmps165
    go_wp2
    all_goals
      go_ret
      exact ⟨ret_bool (by rw [HN.out]), hR⟩
  have HL := Lib.hid (fun wx => lowerR_c s (by omega) wx)
  by_cases hlow : lowr (us s) = us s
  case neg =>
    have HN := Lib.hid (host_no (us s) (.inr (.inr hlow)))
    obtain ⟨t, ht⟩ : ∃ t, t = bs (lowr (us s)) := ⟨_, rfl⟩
    have hne : (t.toList == s.toList) = false := by
      rw [toList_us, toList_us, ht, us_bs, beq_eq_false_iff_ne]; exact hlow
    rw [← ht] at HL
    clear ht hlow
    go_enter Tryz.func165, Tryz.ntmps165
    go_wp2_with (go_at_call 123; refine (HL.out _).mono ?_; rintro e w1 ⟨rfl, hC⟩)
    go_ret
    exact ⟨ret_bool (by rw [HN.out]), hC⟩
  case pos =>
    have h0 : 0 < s.size := by omega
    by_cases hb : s[0].toNat = 91
    · rw [host_six s h0 (by omega) hlow hb]
      exact hostR_six s h0 (by omega) hb hlow w
    · rw [hlow, bs_us] at HL
      have HN := Lib.hid (host_split s h0 (by omega) hlow hb)
      have H6 := Lib.hid (fun wx => splitR_c s (by omega) 46 wx)
      have t1 : ((s[0].toNat : Int) == 91) = false := by simp; omega
      have HBD := Lib.hid (fun p hp => Nat.le_trans (splitc_bd 46 (us s) p hp) (by rw [length_us]; exact hs))
      clear hlow hb
      obtain ⟨L, hL⟩ : ∃ L, L = splitc 46 (us s) := ⟨_, rfl⟩
      rw [← hL] at HN H6 HBD
      clear hL
      go_enter Tryz.func165, Tryz.ntmps165
      go_wp2_with (first | (go_at_call 123; refine (HL.out _).mono ?_; rintro e w1 ⟨rfl, hC⟩) | (go_at_call 127; refine (H6.out _).mono ?_; rintro e w2 ⟨v, rfl, hv, hC2⟩; obtain ⟨ao, cap, rfl, hm1, c1⟩ := hv.form; have C1 := Lib.hid c1; clear c1 hv; have HW := Lib.hid (hC.trans (hC2.mono hC.size)); clear hC hC2))
      unfold maxLen at hm1
      go_loop [6] (fun i => ∃ k : Nat, k ≤ L.length ∧ i = .int .i64 k ∧ (L.take k).all label = true) (fun i => L.length - (intOf i).toNat)
      case atStart => exact ⟨0, Nat.zero_le _, rfl, rfl⟩
      case round =>
        obtain ⟨k, hk, rfl, hb⟩ := hrel
        have HB := Lib.hid hb; clear hb
        by_cases hlt : k < L.length
        · obtain ⟨b, off, rfl, hb1, hc1⟩ := C1.out (by omega)
          have x1 := hc1 k hlt
          have k0 : (0 : Int) ≤ (k : Int) := by omega
          have k1 : (k : Int) < (L.length : Int) := by omega
          clear hc1
          have HX := Lib.hid (fun h => HN.out.trans (labels_bad L k hlt h))
          have HY := Lib.hid (fun h => labels_next L k hlt h HB.out)
          have hps := HBD.out _ (List.getElem_mem hlt)
          obtain ⟨P, hP⟩ : ∃ P, P = bs L[k] := ⟨_, rfl⟩
          have hPu : L[k] = us P := by rw [hP]; simp
          rw [← hP] at x1
          rw [hPu] at HX HY hps
          rw [length_us] at hps
          clear hP hPu
          have HA := Lib.hid (fun wx => allR_c P (by omega) 64 wx)
          by_cases pz : P.size = 0
          · have HF := Lib.hid (HX.out (label_zero P pz))
            obtain rfl := eq_empty pz
            go_wp2
            all_goals
              go_ret
              exact ⟨ret_bool (by rw [HF.out]), HW.out⟩
          have pE := ne_empty pz
          have pF := isEmpty_f pz
          have p0 : 0 < P.size := by omega
          cases ha : allc 64 (us P) with
          | false =>
            have HF := Lib.hid (HX.out (label_all P ha))
            rw [ha] at HA; clear ha
            go_wp2_with (go_at_call 117; refine (HA.out _).mono ?_; rintro e w3 ⟨rfl, rfl⟩)
            go_ret
            exact ⟨ret_bool (by rw [HF.out]), HW.out⟩
          | true =>
            by_cases d0 : P[0].toNat = 45
            · have HF := Lib.hid (HX.out (label_head P p0 d0))
              have t2 : ((P[0].toNat : Int) == 45) = true := by simp [d0]
              rw [ha] at HA; clear ha d0
              go_wp2_with (go_at_call 117; refine (HA.out _).mono ?_; rintro e w3 ⟨rfl, rfl⟩)
              go_ret
              exact ⟨ret_bool (by rw [HF.out]), HW.out⟩
            have t2 : ((P[0].toNat : Int) == 45) = false := by simp; omega
            have q1 : P.size - 1 < P.size := by omega
            have q2 : (0 : Int) ≤ (P.size : Int) - 1 := by omega
            have q3 : ((P.size : Int) - 1).toNat = P.size - 1 := by omega
            by_cases d1 : P[P.size - 1].toNat = 45
            · have HF := Lib.hid (HX.out (label_last P p0 d1))
              have t3 : ((P[P.size - 1].toNat : Int) == 45) = true := by simp [d1]
              rw [ha] at HA; clear ha d0 d1
              go_wp2_with (go_at_call 117; refine (HA.out _).mono ?_; rintro e w3 ⟨rfl, rfl⟩)
              go_ret
              exact ⟨ret_bool (by rw [HF.out]), HW.out⟩
            · have t3 : ((P[P.size - 1].toNat : Int) == 45) = false := by simp; omega
              have HG := Lib.hid (HY.out (label_yes P p0 ha d0 d1))
              rw [ha] at HA; clear ha d0 d1
              go_wp2_with (go_at_call 117; refine (HA.out _).mono ?_; rintro e w3 ⟨rfl, rfl⟩)
              go_round
              case rel => exact ⟨k + 1, by omega, by go_num, HG.out⟩
              case measure => simp [intOf]; omega
        · have hE2 : L.take k = L := List.take_of_length_le (by omega)
          rw [hE2] at HB
          clear hE2
          go_wp2
          go_ret
          exact ⟨ret_bool (by rw [HN.out, HB.out]), HW.out⟩
end

end Go.Proofs.YtipdiddjhimdcaaGreatDoor

namespace Go.Proofs.YtipdiddjhimdcaaGreatDoor

section
open Go.RowKit

structure Prm where
  name : List UInt8
  value : List UInt8
  has : Bool
deriving DecidableEq
def Prm.cells (p : Prm) : List Value := [sv p.name, sv p.value, .bool p.has]
/-- a slice of parameters that reads as L -/
def RPrms (w : World) (v : Value) (L : List Prm) : Prop :=
  ((∃ ao cap, v = .slice ao 0 cap) ∧ L = []) ∨
  ∃ b off cap, v = .slice (some ⟨b, off, none⟩) L.length cap ∧ L.length ≤ cap ∧ cap ≤ maxLen ∧ b < w.heap.size ∧
    ∀ j (hj : j < L.length), w.cell? ⟨b, off + j * 3, none⟩ = some (sv L[j].name) ∧ w.cell? ⟨b, off + j * 3 + 1, none⟩ = some (sv L[j].value) ∧ w.cell? ⟨b, off + j * 3 + 2, none⟩ = some (.bool L[j].has)
theorem RPrms.below {w w' : World} {B : Nat} {v : Value} {L : List Prm} (h : RPrms w v L) (hB : Below B w w') (hs : w.heap.size ≤ B) : RPrms w' v L := by
  rcases h with h | ⟨b, off, cap, h1, h2, h2', h3, h4⟩
  · exact .inl h
  · refine .inr ⟨b, off, cap, h1, h2, h2', Nat.lt_of_lt_of_le h3 hB.size, fun j hj => ?_⟩
    rw [hB.cell (p := ⟨b, off + j * 3, none⟩) (by show b < B; omega), hB.cell (p := ⟨b, off + j * 3 + 1, none⟩) (by show b < B; omega), hB.cell (p := ⟨b, off + j * 3 + 2, none⟩) (by show b < B; omega)]
    exact h4 j hj
theorem RPrms.form {w : World} {v : Value} {L : List Prm} (h : RPrms w v L) : ∃ ao cap, v = .slice ao L.length cap ∧ L.length ≤ maxLen ∧
    (0 < L.length → ∃ b off, ao = some ⟨b, off, none⟩ ∧ b < w.heap.size ∧ ∀ j (hj : j < L.length), w.cell? ⟨b, off + j * 3, none⟩ = some (sv L[j].name) ∧ w.cell? ⟨b, off + j * 3 + 1, none⟩ = some (sv L[j].value) ∧ w.cell? ⟨b, off + j * 3 + 2, none⟩ = some (.bool L[j].has)) := by
  rcases h with ⟨⟨ao, cap, rfl⟩, rfl⟩ | ⟨b, off, cap, rfl, h2, h2', h3, h4⟩
  · exact ⟨ao, cap, rfl, Nat.zero_le _, fun h => by simp at h⟩
  · exact ⟨some ⟨b, off, none⟩, cap, rfl, Nat.le_trans h2 h2', fun _ => ⟨b, off, rfl, h3, h4⟩⟩

/-- the place of the first parameter of a name, from place k on; below 0: there is none -/
def placeGo (name : List UInt8) : List Prm → Nat → Int
  | [], _ => -1
  | p :: r, k => if same p.name name then (k : Int) else placeGo name r (k + 1)
def place (L : List Prm) (name : List UInt8) : Int := placeGo name L 0
theorem place_yes (L : List Prm) (name : List UInt8) (k : Nat) (h : k < L.length) (hp : place L name = placeGo name (L.drop k) k) (hs : same L[k].name name = true) : place L name = (k : Int) := by
  rw [hp, List.drop_eq_getElem_cons h, placeGo, if_pos hs]
theorem place_no (L : List Prm) (name : List UInt8) (k : Nat) (h : k < L.length) (hp : place L name = placeGo name (L.drop k) k) (hs : same L[k].name name = false) : place L name = placeGo name (L.drop (k + 1)) (k + 1) := by
  rw [hp, List.drop_eq_getElem_cons h, placeGo, if_neg (by rw [hs]; decide)]
theorem place_end (L : List Prm) (name : List UInt8) (k : Nat) (h : L.length ≤ k) (hp : place L name = placeGo name (L.drop k) k) : place L name = -1 := by
  rw [hp, List.drop_eq_nil_iff.2 h, placeGo]
end

section
open Go.RowKit

set_option maxHeartbeats 800000 in
theorem place_c (v : Value) (L : List Prm) (s : ByteArray) (hs : s.size ≤ 140737488355328) (w : World) (h1 : RPrms w v L) (hb : ∀ p ∈ L, p.name.length ≤ 140737488355328) :
    Calls Tryz.prog 169 #[v, .string s] w fun e w' => e = .returned (.int .i64 (place L (us s))) ∧ Below w.heap.size w w' := by
  obtain ⟨ao, cap, rfl, hm1, c1⟩ := h1.form
  have C1 := Lib.hid c1
  have HBD := Lib.hid hb
  clear c1 h1 hb
  unfold maxLen at hm1
  go_enter Tryz.func169, Tryz.ntmps169
  go_wp2
  go_loopw [5] (fun i wr => ∃ k : Nat, k ≤ L.length ∧ i = .int .i64 k ∧ Below w.heap.size w wr ∧ place L (us s) = placeGo (us s) (L.drop k) k) (fun i _ => L.length - (intOf i).toNat)
  case atStart => exact ⟨0, Nat.zero_le _, rfl, Below.refl _ _, rfl⟩
  case round =>
    obtain ⟨k, hk, rfl, hB, hp⟩ := hrel
    have HP := Lib.hid hp; clear hp
    by_cases hlt : k < L.length
    · obtain ⟨b, off, rfl, hb1, hc1⟩ := C1.out (by omega)
      have x1 : wr.cell? ⟨b, off + k * 3, none⟩ = some (.string (bs L[k].name)) := by
        rw [hB.cell (p := ⟨b, off + k * 3, none⟩) hb1]; exact (hc1 k hlt).1
      have k0 : (0 : Int) ≤ (k : Int) := by omega
      have k1 : (k : Int) < (L.length : Int) := by omega
      clear hc1
      have HS := Lib.hid (fun wx => sameR_c (bs L[k].name) s (by rw [size_bs]; exact HBD.out _ (List.getElem_mem hlt)) hs wx)
      rw [us_bs] at HS
      have HB := Lib.hid hB
      cases hq : same L[k].name (us s) with
      | true =>
        have HY := Lib.hid (place_yes L (us s) k hlt HP.out hq)
        rw [hq] at HS; clear hq
        go_wp2_with (go_at_call 192; refine (HS.out _).mono ?_; rintro e wx ⟨rfl, hC⟩)
        go_ret
        exact ⟨ret_int HY.out.symm, HB.out.trans (hC.mono HB.out.size)⟩
      | false =>
        have HY := Lib.hid (place_no L (us s) k hlt HP.out hq)
        rw [hq] at HS; clear hq
        go_wp2_with (go_at_call 192; refine (HS.out _).mono ?_; rintro e wx ⟨rfl, hC⟩)
        go_roundw
        case rel => exact ⟨k + 1, by omega, by go_num, HB.out.trans (hC.mono HB.out.size), HY.out⟩
        case measure => simp [intOf]; omega
    · have HE := Lib.hid (place_end L (us s) k (by omega) HP.out)
      go_wp2
      go_ret
      exact ⟨ret_int HE.out.symm, hB⟩
end

section
open Go.RowKit

/-- a parameter's value, and whether there is such a parameter -/
def valueGo (name : List UInt8) : List Prm → List UInt8 × Bool
  | [] => ([], false)
  | p :: r => if same p.name name then (p.value, true) else valueGo name r
def value (L : List Prm) (name : List UInt8) : List UInt8 × Bool := valueGo name L
theorem place_value (name : List UInt8) : ∀ (L : List Prm) (k : Nat),
    (placeGo name L k = -1 ∧ valueGo name L = ([], false)) ∨ (∃ j, ∃ h : j < L.length, placeGo name L k = ((k + j : Nat) : Int) ∧ valueGo name L = (L[j].value, true))
  | [], k => .inl ⟨rfl, rfl⟩
  | p :: r, k => by
    by_cases h : same p.name name = true
    · exact .inr ⟨0, by simp, by rw [placeGo, if_pos h]; simp, by rw [valueGo, if_pos h]; rfl⟩
    · rcases place_value name r (k + 1) with ⟨h1, h2⟩ | ⟨j, hj, h1, h2⟩
      · exact .inl ⟨by rw [placeGo, if_neg h, h1], by rw [valueGo, if_neg h, h2]⟩
      · refine .inr ⟨j + 1, by simp; omega, ?_, ?_⟩
        · rw [placeGo, if_neg h, h1]; congr 1; omega
        · rw [valueGo, if_neg h, h2]; simp

theorem valueR_c (v : Value) (L : List Prm) (s : ByteArray) (hs : s.size ≤ 140737488355328) (w : World) (h1 : RPrms w v L) (hb : ∀ p ∈ L, p.name.length ≤ 140737488355328) :
    Calls Tryz.prog 121 #[v, .string s] w fun e w' => e = .returned (.tuple #[.string (bs (value L (us s)).1), .bool (value L (us s)).2]) ∧ Below w.heap.size w w' := by
  have HP := Lib.hid (place_c v L s hs w h1 hb)
  obtain ⟨ao, cap, rfl, hm1, c1⟩ := h1.form
  have C1 := Lib.hid c1
  clear c1 h1 hb
  unfold maxLen at hm1
  rcases place_value (us s) L 0 with ⟨e1, e2⟩ | ⟨j, hj, e1, e2⟩
  · have HV := Lib.hid (show value L (us s) = ([], false) from e2)
    rw [show place L (us s) = -1 from e1] at HP
    clear e1 e2
    go_enter Tryz.func121, Tryz.ntmps121
    go_wp2_with (go_at_call 169; refine (HP.out).mono ?_; rintro e w1 ⟨rfl, hC⟩)
    go_ret2
    exact ⟨by rw [HV.out]; rfl, hC⟩
  · have HV := Lib.hid (show value L (us s) = (L[j].value, true) from e2)
    rw [show place L (us s) = ((j : Nat) : Int) from by rw [show place L (us s) = _ from e1]; simp] at HP
    clear e1 e2
    obtain ⟨b, off, rfl, hb1, hc1⟩ := C1.out (by omega)
    have k0 : (0 : Int) ≤ (j : Int) := by omega
    have k1 : (j : Int) < (L.length : Int) := by omega
    have X := Lib.hid (fun (w1 : World) (hC : Below w.heap.size w w1) => show w1.cell? ⟨b, off + j * 3 + 1, none⟩ = some (.string (bs L[j].value)) by
      rw [hC.cell (p := ⟨b, off + j * 3 + 1, none⟩) hb1]; exact (hc1 j hj).2.1)
    clear hc1
    go_enter Tryz.func121, Tryz.ntmps121
    go_wp2_with (go_at_call 169; refine (HP.out).mono ?_; rintro e w1 ⟨rfl, hC⟩; have x1 := X.out w1 hC; have HC := Lib.hid hC; clear hC)
    go_ret2
    exact ⟨by rw [HV.out]; rfl, HC.out⟩
end

section
open Go.RowKit

/-- the first parameter of a name; else the empty one -/
def findGo (name : List UInt8) : List Prm → Prm × Bool
  | [] => (⟨[], [], false⟩, false)
  | p :: r => if same p.name name then (p, true) else findGo name r
theorem find_value (name : List UInt8) : ∀ (L : List Prm), valueGo name L = ((findGo name L).1.value, (findGo name L).2)
  | [] => rfl
  | p :: r => by
    by_cases h : same p.name name = true
    · rw [valueGo, findGo, if_pos h, if_pos h]
    · rw [valueGo, findGo, if_neg h, if_neg h]; exact find_value name r
theorem find_yes (L : List Prm) (name : List UInt8) (k : Nat) (h : k < L.length) (hp : findGo name L = findGo name (L.drop k)) (hs : same L[k].name name = true) : findGo name L = (L[k], true) := by
  rw [hp, List.drop_eq_getElem_cons h, findGo, if_pos hs]
theorem find_no (L : List Prm) (name : List UInt8) (k : Nat) (h : k < L.length) (hp : findGo name L = findGo name (L.drop k)) (hs : same L[k].name name = false) : findGo name L = findGo name (L.drop (k + 1)) := by
  rw [hp, List.drop_eq_getElem_cons h, findGo, if_neg (by rw [hs]; decide)]
theorem find_end (L : List Prm) (name : List UInt8) (k : Nat) (h : L.length ≤ k) (hp : findGo name L = findGo name (L.drop k)) : findGo name L = (⟨[], [], false⟩, false) := by
  rw [hp, List.drop_eq_nil_iff.2 h, findGo]

def pv (p : Prm) : Value := .agg #[sv p.name, sv p.value, .bool p.has]
/-- a block that a call laid, later on -/
theorem boxedAt {w wr : World} {cs : Array Value} {t : TypeId} (hB : Below (w.heap.size + 1) (w.alloc (.cells cs t)) wr) : wr.heap[w.heap.size]? = some (.cells cs t (0, 0)) :=
  (hB.block w.heap.size (by omega)).trans (heap_alloc_new w _)
theorem boxedCell {w : World} {g : Nat} {cs : Array Value} {t : TypeId} (h : w.heap[g]? = some (.cells cs t (0, 0))) (i : Nat) : w.cell? ⟨g, i, none⟩ = cs[i]? := cell_of_row w g i cs t (0, 0) h
theorem boxedFree {w : World} {g : Nat} {cs : Array Value} {t : TypeId} (h : w.heap[g]? = some (.cells cs t (0, 0))) (i : Nat) : w.frozen? ⟨g, i, none⟩ = false := by simp [World.frozen?, h]
theorem boxed {w wr : World} {a b c : Value} {t : TypeId} (hB : Below (w.heap.size + 1) (w.alloc (.cells #[a, b, c] t)) wr) :
    wr.cell? ⟨w.heap.size, 0, none⟩ = some a ∧ wr.cell? ⟨w.heap.size, 1, none⟩ = some b ∧ wr.cell? ⟨w.heap.size, 2, none⟩ = some c ∧
    wr.frozen? ⟨w.heap.size, 0, none⟩ = false ∧ wr.frozen? ⟨w.heap.size, 1, none⟩ = false ∧ wr.frozen? ⟨w.heap.size, 2, none⟩ = false :=
  have h := boxedAt hB
  ⟨boxedCell h 0, boxedCell h 1, boxedCell h 2, boxedFree h 0, boxedFree h 1, boxedFree h 2⟩
set_option maxHeartbeats 1600000 in
theorem find_c (v : Value) (L : List Prm) (s : ByteArray) (hs : s.size ≤ 140737488355328) (w : World) (h1 : RPrms w v L) (hb : ∀ p ∈ L, p.name.length ≤ 140737488355328) :
    Calls Tryz.prog 116 #[v, .string s] w fun e w' => e = .returned (.tuple #[pv (findGo (us s) L).1, .bool (findGo (us s) L).2]) ∧ Below w.heap.size w w' := by
  obtain ⟨ao, cap, rfl, hm1, c1⟩ := h1.form
  have C1 := Lib.hid c1
  have HBD := Lib.hid hb
  clear c1 h1 hb
  unfold maxLen at hm1
  go_enter Tryz.func116, Tryz.ntmps116
  go_wp2
  have z0 : (w.alloc (.cells #[.string ⟨#[]⟩, .string ⟨#[]⟩, .bool false] 85)).heap.size = w.heap.size + 1 := World.size_alloc _ _
  have rc := Lib.hid (fun (wr : World) (hB : Below (w.heap.size + 1) (w.alloc (.cells #[.string ⟨#[]⟩, .string ⟨#[]⟩, .bool false] 85)) wr) => boxed hB)
  obtain ⟨w0, hw0⟩ : ∃ w0 : World, w0 = w.alloc (.cells #[.string ⟨#[]⟩, .string ⟨#[]⟩, .bool false] 85) := ⟨_, rfl⟩
  have hBw : Below w.heap.size w w0 := by rw [hw0]; exact (Below.refl _ _).alloc (Nat.le_refl _) _
  rw [← hw0] at rc z0
  simp only [← hw0]
  have HW := Lib.hid hw0
  clear hw0
  go_loopw [10] (fun i wr => ∃ k : Nat, k ≤ L.length ∧ i = .int .i64 k ∧ Below (w.heap.size + 1) w0 wr ∧ findGo (us s) L = findGo (us s) (L.drop k)) (fun i _ => L.length - (intOf i).toNat)
  case atStart => exact ⟨0, Nat.zero_le _, rfl, Below.refl _ _, rfl⟩
  case round =>
    obtain ⟨k, hk, rfl, hB, hp⟩ := hrel
    have HP := Lib.hid hp; clear hp
    have hz : w.heap.size < wr.heap.size := by have := hB.size; omega
    have hBr : Below w.heap.size w wr := hBw.trans (hB.mono (by omega))
    obtain ⟨r0, r1, r2, f0, f1, f2⟩ := rc.out wr hB
    by_cases hlt : k < L.length
    · obtain ⟨b, off, rfl, hb1, hc1⟩ := C1.out (by omega)
      have x0 : wr.cell? ⟨b, off + k * 3, none⟩ = some (.string (bs L[k].name)) := by
        rw [hBr.cell (p := ⟨b, off + k * 3, none⟩) hb1]; exact (hc1 k hlt).1
      have x1 : wr.cell? ⟨b, off + k * 3 + 1, none⟩ = some (.string (bs L[k].value)) := by
        rw [hBr.cell (p := ⟨b, off + k * 3 + 1, none⟩) hb1]; exact (hc1 k hlt).2.1
      have x2 : wr.cell? ⟨b, off + k * 3 + 2, none⟩ = some (.bool L[k].has) := by
        rw [hBr.cell (p := ⟨b, off + k * 3 + 2, none⟩) hb1]; exact (hc1 k hlt).2.2
      have k0 : (0 : Int) ≤ (k : Int) := by omega
      have k1 : (k : Int) < (L.length : Int) := by omega
      clear hc1
      have HS := Lib.hid (fun wx => same_c (bs L[k].name) s (by rw [size_bs]; have := HBD.out _ (List.getElem_mem hlt); omega) (by omega) wx)
      rw [us_bs] at HS
      have HBr := Lib.hid hBr
      clear hBr
      cases hq : same L[k].name (us s) with
      | true =>
        have HY := Lib.hid (find_yes L (us s) k hlt HP.out hq)
        rw [hq] at HS; clear hq
        go_wp2_with (go_at_call 93; refine (HS.out _).mono ?_; rintro e wx ⟨rfl, ⟨nd, rfl⟩⟩)
        refine bodyPost_ret (v := .tuple #[pv L[k], .bool true]) (by simp [results, Tryz.results116, go_sem, pv, sv, hz, r0, r1, r2]) rfl ⟨by rw [HY.out], ?_⟩
        exact (((below_drewN (HBr.out.alloc (Nat.le_of_lt hz) _) nd).setCell (Nat.le_refl _) _).setCell (Nat.le_refl _) _).setCell (Nat.le_refl _) _
      | false =>
        have HY := Lib.hid (find_no L (us s) k hlt HP.out hq)
        rw [hq] at HS; clear hq
        go_wp2_with (go_at_call 93; refine (HS.out _).mono ?_; rintro e wx ⟨rfl, ⟨nd, rfl⟩⟩)
        go_roundw
        case rel => exact ⟨k + 1, by omega, by go_num, (below_drewN (hB.alloc (by omega) _) _), HY.out⟩
        case measure => simp [intOf]; omega
    · have HE := Lib.hid (find_end L (us s) k (by omega) HP.out)
      go_wp2
      refine bodyPost_ret (v := .tuple #[.agg #[.string ⟨#[]⟩, .string ⟨#[]⟩, .bool false], .bool false]) (by simp [results, Tryz.results116, go_sem, r0, r1, r2]) rfl ⟨by rw [HE.out]; rfl, ?_⟩
      exact ((hBr.setCell (Nat.le_refl _) _).setCell (Nat.le_refl _) _).setCell (Nat.le_refl _) _

theorem value_c (v : Value) (L : List Prm) (s : ByteArray) (hs : s.size ≤ 140737488355328) (w : World) (h1 : RPrms w v L) (hb : ∀ p ∈ L, p.name.length ≤ 140737488355328) :
    Calls Tryz.prog 63 #[v, .string s] w fun e w' => e = .returned (.tuple #[.string (bs (value L (us s)).1), .bool (value L (us s)).2]) ∧ Below w.heap.size w w' := by
  have HF := Lib.hid (fun wx (hx : RPrms wx v L) => find_c v L s hs wx hx hb)
  have HV := Lib.hid (show value L (us s) = _ from find_value (us s) L)
  have H1 := Lib.hid h1
  clear hb h1
  obtain ⟨p, hp⟩ : ∃ p, p = findGo (us s) L := ⟨_, rfl⟩
  rw [← hp] at HV HF
  clear hp
  unfold pv sv at HF
  go_enter Tryz.func63, Tryz.ntmps63
  go_wp2_with (go_at_call 116; refine (HF.out _ H1.out).mono ?_; rintro e wx ⟨rfl, hC⟩)
  go_ret2
  exact ⟨by rw [HV.out]; rfl, hC.alloc hC.size _⟩
end

section
open Go.RowKit

def Blk (w : World) (g : Nat) (t : TypeId) (cs : Array Value) : Prop := w.heap[g]? = some (.cells cs t (0, 0))
section
variable {w w' : World} {g : Nat} {t : TypeId} {cs : Array Value}
theorem Blk.lt (h : Blk w g t cs) : g < w.heap.size := (Array.getElem?_eq_some_iff.1 h).1
theorem Blk.new (w : World) (t : TypeId) (cs : Array Value) : Blk (w.alloc (.cells cs t)) w.heap.size t cs := heap_alloc_new w _
theorem Blk.below {B : Nat} (h : Blk w g t cs) (hb : Below B w w') (hg : g < B) : Blk w' g t cs := (hb.block g hg).trans h
theorem Blk.call (h : Blk w g t cs) (hb : Below w.heap.size w w') : Blk w' g t cs := h.below hb h.lt
theorem Blk.alloc (h : Blk w g t cs) (o : Obj) : Blk (w.alloc o) g t cs := (Below.heap_alloc w o g h.lt).trans h
theorem Blk.set_ (h : Blk w g t cs) (i : Nat) (u : Value) : Blk (w.setCell ⟨g, i, none⟩ u) g t (cs.setIfInBounds i u) := by
  unfold Blk at h ⊢
  simp [World.setCell, Array.getElem?_modify, h]
theorem Blk.far (h : Blk w g t cs) {p : Addr} (hp : g ≠ p.block) (u : Value) : Blk (w.setCell p u) g t cs := (Below.heap_setCell w p u g hp).trans h
theorem Blk.f2 {a b : Value} (h : Blk w g t #[a, b]) : w.cell? ⟨g, 0, none⟩ = some a ∧ w.cell? ⟨g, 1, none⟩ = some b ∧ w.frozen? ⟨g, 0, none⟩ = false ∧ w.frozen? ⟨g, 1, none⟩ = false ∧ g < w.heap.size :=
  ⟨boxedCell h 0, boxedCell h 1, boxedFree h 0, boxedFree h 1, h.lt⟩
theorem Blk.f3 {a b c : Value} (h : Blk w g t #[a, b, c]) : w.cell? ⟨g, 0, none⟩ = some a ∧ w.cell? ⟨g, 1, none⟩ = some b ∧ w.cell? ⟨g, 2, none⟩ = some c ∧ w.frozen? ⟨g, 0, none⟩ = false ∧ w.frozen? ⟨g, 1, none⟩ = false ∧ w.frozen? ⟨g, 2, none⟩ = false ∧ g < w.heap.size :=
  ⟨boxedCell h 0, boxedCell h 1, boxedCell h 2, boxedFree h 0, boxedFree h 1, boxedFree h 2, h.lt⟩
end
end

section
open Go.RowKit

theorem prms_drop (L M : List Prm) (k : Nat) (h1 : k < L.length) (h2 : k < M.length) : (L.drop k == M.drop k) = ((L[k] == M[k]) && (L.drop (k + 1) == M.drop (k + 1))) := by
  rw [List.drop_eq_getElem_cons h1, List.drop_eq_getElem_cons h2]; rfl

theorem prm_eq (p q : Prm) : (p == q) = (((bs p.name).toList == (bs q.name).toList) && ((bs p.value).toList == (bs q.value).toList) && (p.has == q.has)) := by
  simp only [toList_us, us_bs]
  obtain ⟨a, b, c⟩ := p
  obtain ⟨a', b', c'⟩ := q
  rw [Bool.eq_iff_iff]
  simp [and_assoc]

set_option maxHeartbeats 1600000 in
theorem lists_c (v1 v2 : Value) (L M : List Prm) (w : World) (h1 : RPrms w v1 L) (h2 : RPrms w v2 M) :
    Calls Tryz.prog 64 #[v1, v2] w fun e w' => e = .returned (.bool (L == M)) ∧ Drn w w' := by
  obtain ⟨ao, cap, rfl, hm1, c1⟩ := h1.form
  obtain ⟨bo, cap', rfl, hm2, c2⟩ := h2.form
  have C1 := Lib.hid c1
  have C2 := Lib.hid c2
  clear c1 c2 h1 h2
  unfold maxLen at hm1 hm2
  by_cases hne : L.length = M.length
  · have hle1 : L.length ≤ M.length := by omega
    have hle2 : M.length ≤ L.length := by omega
    have hn : ((L.length : Int) != (M.length : Int)) = false := by simp [hne]
    clear hne
    go_enter Tryz.func64, Tryz.ntmps64
    go_wp2
    go_loopw [5] (fun i wr => ∃ k : Nat, k ≤ L.length ∧ i = .int .i64 k ∧ Drn w wr ∧ (L.drop k == M.drop k) = (L == M)) (fun i _ => L.length - (intOf i).toNat)
    case atStart => exact ⟨0, Nat.zero_le _, rfl, Drn.refl _, rfl⟩
    case round =>
      obtain ⟨k, hk, rfl, hD, hb⟩ := hrel
      have HB := Lib.hid hb; clear hb
      by_cases hlt : k < L.length
      · have hlt' : k < M.length := by omega
        obtain ⟨b, off, rfl, hb1, hc1⟩ := C1.out (by omega)
        obtain ⟨b', off', rfl, hb2, hc2⟩ := C2.out (by omega)
        have hd := Lib.hid (prms_drop L M k hlt hlt')
        have x1 : wr.cell? ⟨b, off + k * 3, none⟩ = some (sv L[k].name) ∧ wr.cell? ⟨b, off + k * 3 + 1, none⟩ = some (sv L[k].value) ∧ wr.cell? ⟨b, off + k * 3 + 2, none⟩ = some (.bool L[k].has) := by
          obtain ⟨n, rfl⟩ := hD; exact hc1 k hlt
        have x2 : wr.cell? ⟨b', off' + k * 3, none⟩ = some (sv M[k].name) ∧ wr.cell? ⟨b', off' + k * 3 + 1, none⟩ = some (sv M[k].value) ∧ wr.cell? ⟨b', off' + k * 3 + 2, none⟩ = some (.bool M[k].has) := by
          obtain ⟨n, rfl⟩ := hD; exact hc2 k hlt'
        unfold sv at x1 x2
        obtain ⟨y0, y1, y2⟩ := x1
        obtain ⟨z0, z1, z2⟩ := x2
        have k0 : (0 : Int) ≤ (k : Int) := by omega
        have k1 : (k : Int) < (L.length : Int) := by omega
        have k2 : (k : Int) < (M.length : Int) := by omega
        clear hc1 hc2
        have HPE := Lib.hid (prm_eq L[k] M[k])
        obtain ⟨A0, hA0⟩ : ∃ A, A = bs L[k].name := ⟨_, rfl⟩
        obtain ⟨A1, hA1⟩ : ∃ A, A = bs L[k].value := ⟨_, rfl⟩
        obtain ⟨A2, hA2⟩ : ∃ A, A = L[k].has := ⟨_, rfl⟩
        obtain ⟨B0, hB0⟩ : ∃ A, A = bs M[k].name := ⟨_, rfl⟩
        obtain ⟨B1, hB1⟩ : ∃ A, A = bs M[k].value := ⟨_, rfl⟩
        obtain ⟨B2, hB2⟩ : ∃ A, A = M[k].has := ⟨_, rfl⟩
        rw [← hA0] at y0 HPE
        rw [← hA1] at y1 HPE
        rw [← hA2] at y2 HPE
        rw [← hB0] at z0 HPE
        rw [← hB1] at z1 HPE
        rw [← hB2] at z2 HPE
        clear hA0 hA1 hA2 hB0 hB1 hB2
        have hcase : ((A0.toList == B0.toList) = true ∧ (A1.toList == B1.toList) = true ∧ (A2 == B2) = true) ∨ ((A0.toList == B0.toList) = false) ∨ ((A0.toList == B0.toList) = true ∧ (A1.toList == B1.toList) = false) ∨ ((A0.toList == B0.toList) = true ∧ (A1.toList == B1.toList) = true ∧ (A2 == B2) = false) := by
          cases (A0.toList == B0.toList) <;> cases (A1.toList == B1.toList) <;> cases (A2 == B2) <;> simp
        rcases hcase with ⟨q0, q1, q2⟩ | hc
        · rw [q0, q1, q2] at HPE
          go_wp2
          go_quiet (fail)
          go_wp2
          go_roundw
          case rel => exact ⟨k + 1, by omega, by go_num, hD.step _, by rw [← HB.out, hd.out, HPE.out]; rfl⟩
          case measure => simp [intOf]; omega
        · have HF := Lib.hid (show (L[k] == M[k]) = false by
            rw [HPE.out]
            rcases hc with q0 | ⟨q0, q1⟩ | ⟨q0, q1, q2⟩
            · rw [q0]; rfl
            · rw [q0, q1]; rfl
            · rw [q0, q1, q2]; rfl)
          rcases hc with q0 | ⟨q0, q1⟩ | ⟨q0, q1, q2⟩
          all_goals
            go_wp2
            go_quiet (fail)
            go_wp2
            go_ret
            exact ⟨ret_bool (by rw [← HB.out, hd.out, HF.out]; rfl), hD.step _⟩
      · go_wp2
        go_ret
        refine ⟨ret_bool ?_, hD⟩
        rw [← HB.out, List.drop_eq_nil_iff.2 (by omega), List.drop_eq_nil_iff.2 (by omega)]; rfl
  · have hn : ((L.length : Int) != (M.length : Int)) = true := by simp; omega
    have HN := Lib.hid (show (L == M) = false by
      rw [beq_eq_false_iff_ne]; intro e; exact hne (congrArg List.length e))
    clear hne
    go_enter Tryz.func64, Tryz.ntmps64
    go_wp2
    go_ret
    exact ⟨ret_bool HN.out.symm, Drn.refl _⟩
end

end Go.Proofs.YtipdiddjhimdcaaGreatDoor

