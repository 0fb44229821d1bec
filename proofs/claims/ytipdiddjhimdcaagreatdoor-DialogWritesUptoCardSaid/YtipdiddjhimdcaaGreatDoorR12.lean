/- Contracts of Go functions, and plain laws. No condition but those told. -/
import Derived.Test.YtipdiddjhimdcaaGreatDoorR09
import Derived.Test.YtipdiddjhimdcaaGreatDoorR10
import Derived.Test.YtipdiddjhimdcaaGreatDoorR11
import Derived.Test.YtipdiddjhimdcaaGreatDoorShelf
import Derived.Laws.RangeAny
import Derived.Lib.FieldsP
import Derived.Deep.LoopGhost
import Derived.Test.YtipdiddjhimdcaaGreatDoorR03
set_option linter.unusedSimpArgs false
set_option linter.unusedVariables false
set_option maxRecDepth 100000
namespace Go.Proofs.YtipdiddjhimdcaaGreatDoor
open Go.RowKit
def rblank (n : Nat) : Bool := n == 32 || n == 9
open Go.Lib in
theorem spans_mono (p : Nat → Bool) (s : ByteArray) : ∀ (f pos : Nat) (st : Option Nat) (acc : List (Nat × Nat)),
  (∀ x ∈ acc, x ∈ closeSpans s (spansFromP p s f pos st acc)) ∧ (∀ a, st = some a → ∃ b, (a, b) ∈ closeSpans s (spansFromP p s f pos st acc) ∧ ∀ i, i < pos → i < s.size → i < b)
 | 0, pos, st, acc => by
  unfold spansFromP closeSpans
  cases st with
  | none => exact ⟨fun x hx => hx, fun a h => by cases h⟩
  | some a =>
   refine ⟨fun x hx => List.mem_append_left _ hx, fun b h => ?_⟩
   injection h with h
   subst h
   exact ⟨s.size, by simp, fun i _ h => h⟩
 | f + 1, pos, st, acc => by
  unfold spansFromP
  by_cases hp : pos < s.size
  ·rw [if_pos hp]
   by_cases hq : p (Utf8.decode s pos).1 = true
   ·rw [if_pos hq]
    cases st with
    | none =>
     have := spans_mono p s f (pos + (Utf8.decode s pos).2) none acc
     exact ⟨this.1, fun a h => by cases h⟩
    | some a =>
     have := spans_mono p s f (pos + (Utf8.decode s pos).2) none (acc ++ [(a, pos)])
     refine ⟨fun x hx => this.1 x (List.mem_append_left _ hx), fun b h => ?_⟩
     injection h with h
     subst h
     exact ⟨pos, this.1 _ (by simp), fun i h _ => h⟩
   ·rw [if_neg hq]
    cases st with
    | none =>
     have := spans_mono p s f (pos + (Utf8.decode s pos).2) (some pos) acc
     exact ⟨this.1, fun a h => by cases h⟩
    | some a =>
     have := spans_mono p s f (pos + (Utf8.decode s pos).2) (some a) acc
     refine ⟨this.1, fun b h => ?_⟩
     injection h with h
     subst h
     obtain ⟨b, h1, h2⟩ := this.2 a rfl
     exact ⟨b, h1, fun i hi hs => h2 i (by omega) hs⟩
  ·rw [if_neg hp]
   unfold closeSpans
   cases st with
   | none => exact ⟨fun x hx => hx, fun a h => by cases h⟩
   | some a =>
    refine ⟨fun x hx => List.mem_append_left _ hx, fun b h => ?_⟩
    injection h with h
    subst h
    exact ⟨s.size, by simp, fun i _ h => h⟩
open Go.Lib in
theorem spans_cover (s : ByteArray) : ∀ (f pos : Nat) (st : Option Nat) (acc : List (Nat × Nat)) (i : Nat), s.size ≤ pos + f → (∀ a, st = some a → a ≤ pos) → pos ≤ i → (hi : i < s.size) → blank s[i] = false →
  ∃ x ∈ closeSpans s (spansFromP rblank s f pos st acc), x.1 ≤ i ∧ i < x.2
 | 0, pos, st, acc, i, hf, _, h1, hi, _ => by omega
 | f + 1, pos, st, acc, i, hf, ha, h1, hi, hb => by
  have hp : pos < s.size := by omega
  have hw : 1 ≤ (Utf8.decode s pos).2 := by
   by_cases h : (s[pos]'hp).toNat < 128
   ·rw [decode_ascii s pos hp h]; exact ρ _
   ·exact (decode_high s pos hp (by omega)).2
  by_cases hfar : pos + (Utf8.decode s pos).2 ≤ i
  ·unfold spansFromP
   rw [if_pos hp]
   by_cases hq : rblank (Utf8.decode s pos).1 = true
   ·rw [if_pos hq]
    cases st with
    | none => exact spans_cover s f _ none acc i (by omega) (fun a h => by cases h) hfar hi hb
    | some a => exact spans_cover s f _ none _ i (by omega) (fun a h => by cases h) hfar hi hb
   ·rw [if_neg hq]
    cases st with
    | none => exact spans_cover s f _ (some pos) acc i (by omega) (fun a h => by injection h with h; omega) hfar hi hb
    | some a => exact spans_cover s f _ (some a) acc i (by omega) (fun b h => by injection h with h; have := ha a rfl; omega) hfar hi hb
  ·have hq : ¬ rblank (Utf8.decode s pos).1 = true := by
    intro hq
    unfold rblank at hq
    simp only [Bool.or_eq_true, beq_iff_eq] at hq
    by_cases h128 : (s[pos]'hp).toNat < 128
    ·have hd := decode_ascii s pos hp h128
     rw [hd] at hq hfar
     have hip : i = pos := by dsimp only at hfar; omega
     subst hip
     have : blank s[i] = true := by
      have hall := all_bytes (fun c => c.toNat = 32 ∨ c.toNat = 9 → blank c = true) (by decide +kernel) s[i]
      exact hall hq
     rw [hb] at this; cases this
    ·have := (decode_high s pos hp (by omega)).1
     omega
   unfold spansFromP
   rw [if_pos hp, if_neg hq]
   cases st with
   | none =>
    obtain ⟨b, m, hb'⟩ := (spans_mono rblank s f (pos + (Utf8.decode s pos).2) (some pos) acc).2 pos rfl
    exact ⟨_, m, h1, hb' i (by omega) hi⟩
   | some a =>
    obtain ⟨b, m, hb'⟩ := (spans_mono rblank s f (pos + (Utf8.decode s pos).2) (some a) acc).2 a rfl
    exact ⟨_, m, Nat.le_trans (ha a rfl) h1, hb' i (by omega) hi⟩
def curS (s : ByteArray) (pos : Nat) : Option Nat → List UInt8
 | none => []
 | some a => ((us s).take pos).drop a
open Go.Lib in
theorem spans_words (s : ByteArray) (hall : ∀ (i : Nat) (h : i < s.size), (s[i]'h).toNat < 128) : ∀ (f pos : Nat) (st : Option Nat) (acc : List (Nat × Nat)), s.size ≤ pos + f → pos ≤ s.size → (∀ a, st = some a → a < pos) →
  (closeSpans s (spansFromP rblank s f pos st acc)).map (fun x => us (s.extract x.1 x.2)) = acc.map (fun x => us (s.extract x.1 x.2)) ++ wordsGo (curS s pos st) ((us s).drop pos)
 | f, pos, st, acc, hf, hps, ha => by
  have hend : pos = s.size → (closeSpans s (acc, st)).map (fun x => us (s.extract x.1 x.2)) = acc.map (fun x => us (s.extract x.1 x.2)) ++ wordsGo (curS s pos st) ((us s).drop pos) := by
   intro e
   rw [drop_us_end s pos (by omega), wordsGo.eq_def]
   unfold closeSpans curS
   cases st with
   | none => simp
   | some a =>
    have h1 := ha a rfl
    dsimp only
    rw [List.map_append, if_neg (by
     intro h
     have := congrArg List.length h
     rw [List.length_drop, List.length_take, length_us, List.length_nil] at this
     omega), List.map_cons, List.map_nil, us_extract, e, List.drop_take]
  match f with
  | 0 =>
   have : spansFromP rblank s 0 pos st acc = (acc, st) := rfl
   rw [this]
   exact hend (by omega)
  | f + 1 =>
   by_cases hp : pos < s.size
   ·have hd := decode_ascii s pos hp (hall pos hp)
    unfold spansFromP
    rw [if_pos hp, hd]
    dsimp only
    rw [drop_us s pos hp]
    have hbl : rblank (s[pos]'hp).toNat = blank (s[pos]'hp) := by
     have h := all_bytes (fun c => rblank c.toNat = blank c) (by decide +kernel) (s[pos]'hp)
     exact h
    rw [hbl]
    cases hb : blank (s[pos]'hp)
    ·rw [if_neg (by decide)]
     have htk : curS s (pos + 1) (some (st.getD pos)) = curS s pos st ++ [s[pos]'hp] := by
      unfold curS
      cases st with
      | none =>
       show ((us s).take (pos + 1)).drop pos = [] ++ [_]
       rw [take_us s pos hp, List.drop_append, List.drop_eq_nil_iff.2 (by rw [List.length_take]; omega), List.length_take, length_us, Nat.min_eq_left (by omega), Nat.sub_self]; rfl
      | some a =>
       have h1 := ha a rfl
       show ((us s).take (pos + 1)).drop a = ((us s).take pos).drop a ++ [_]
       rw [take_us s pos hp, List.drop_append, List.length_take, length_us, Nat.min_eq_left (by omega), show a - pos = 0 by omega]; rfl
     have hw : wordsGo (curS s pos st) (s[pos]'hp :: (us s).drop (pos + 1)) = wordsGo (curS s (pos + 1) (some (st.getD pos))) ((us s).drop (pos + 1)) := by
      rw [wordsGo, if_neg (by rw [hb]; decide), htk]
     rw [hw]
     cases st with
     | none => exact spans_words s hall f (pos + 1) (some pos) acc (by omega) (by omega) (fun a h => by injection h with h; omega)
     | some a => exact spans_words s hall f (pos + 1) (some a) acc (by omega) (by omega) (fun b h => by injection h with h; have := ha a rfl; omega)
    ·rw [if_pos rfl]
     cases st with
     | none =>
      have hw : wordsGo (curS s pos none) (s[pos]'hp :: (us s).drop (pos + 1)) = wordsGo (curS s (pos + 1) none) ((us s).drop (pos + 1)) := by
       rw [wordsGo, if_pos hb]; rfl
      rw [hw]
      exact spans_words s hall f (pos + 1) none acc (by omega) (by omega) (fun a h => by cases h)
     | some a =>
      have h1 := ha a rfl
      have hne : curS s pos (some a) ≠ [] := by
       intro h
       have := congrArg List.length h
       unfold curS at this
       rw [List.length_drop, List.length_take, length_us, List.length_nil] at this
       omega
      have hw : wordsGo (curS s pos (some a)) (s[pos]'hp :: (us s).drop (pos + 1)) = curS s pos (some a) :: wordsGo (curS s (pos + 1) none) ((us s).drop (pos + 1)) := by
       rw [wordsGo, if_pos hb, if_neg hne]; rfl
      rw [hw]
      have := spans_words s hall f (pos + 1) none (acc ++ [(a, pos)]) (by omega) (by omega) (fun a h => by cases h)
      dsimp only
      rw [this, List.map_append, List.map_cons, List.map_nil, us_extract]
      simp [curS, List.drop_take]
   ·have : spansFromP rblank s (f + 1) pos st acc = (acc, st) := spansFromP_end _ _ _ _ _ _ hp
    rw [this]
    exact hend (by omega)
def wrdS (T : ByteArray) : List (List UInt8) := (Go.Lib.goFieldsP rblank T).map us
theorem wrd_spans (T : ByteArray) : wrdS T = (Go.Lib.spansOfP rblank T).map (fun x => us (T.extract x.1 x.2)) := by
 unfold wrdS Go.Lib.goFieldsP
 rw [List.map_map]; rfl
theorem dispb_ascii (c : UInt8) (h : dispb c = true) : c.toNat < 128 := by
 have := all_bytes (fun c => dispb c = true → c.toNat < 128) (by decide +kernel) c
 exact this h
theorem wrd_words (T : ByteArray) (h : (us T).all dispb = true) : wrdS T = wordsGo [] (us T) := by
 rw [wrd_spans]
 have h1 : ∀ (i : Nat) (hi : i < T.size), (T[i]'hi).toNat < 128 := fun i hi => dispb_ascii _ (List.all_eq_true.1 h _ (List.mem_of_getElem? (get_us T i hi)))
 have := spans_words T h1 T.size 0 none [] (by omega) (Nat.zero_le _) (fun a h => by cases h)
 simpa [Go.Lib.spansOfP, curS] using this
theorem words_noblank : ∀ (l cur : List UInt8), (∀ c ∈ cur, blank c = false) → ∀ w ∈ wordsGo cur l, ∀ c ∈ w, blank c = false
 | [], cur, hc => by
  intro w hw
  rw [wordsGo] at hw
  split at hw
  ·cases hw
  ·rw [List.mem_singleton] at hw; subst hw; exact hc
 | c :: r, cur, hc => by
  intro w hw
  rw [wordsGo] at hw
  have h0 : ∀ c ∈ ([] : List UInt8), blank c = false := fun c hc => by cases hc
  split at hw
  ·split at hw
   ·exact words_noblank r [] h0 w hw
   ·rcases List.mem_cons.1 hw with rfl | hw
    ·exact hc
    ·exact words_noblank r [] h0 w hw
  ·rename_i hb
   refine words_noblank r (cur ++ [c]) (fun d hd => ?_) w hw
   rcases List.mem_append.1 hd with hd | hd
   ·exact hc d hd
   ·rw [List.mem_singleton] at hd; subst hd; simpa using hb
theorem disp_quote (l : List UInt8) (h : opens 34 l = true) : optB (dispT l) = ((unquote l).1, (unquote l).2 == 0) := by
 unfold dispT
 rw [if_pos h]
 by_cases hu : (unquote l).2 = 0
 ·rw [if_pos hu, hu]; rfl
 ·rw [if_neg hu]
  have h1 : (unquote l).1 = [] := by
   unfold unquote at hu ⊢
   split
   ·rfl
   ·rename_i h2
    rw [if_neg h2] at hu
    cases hq : unqGo ((l.drop 1).take (l.length - 2)) with
    | none => rfl
    | some r => rw [hq] at hu; exact absurd rfl hu
  rw [h1]
  have : ((unquote l).2 == 0) = false := by simpa using hu
  rw [this]; rfl
theorem wrd_mem (T : ByteArray) (x : List UInt8) (hx : x ∈ wrdS T) (c : UInt8) (hc : c ∈ x) : c ∈ us T := by
 rw [wrd_spans] at hx
 obtain ⟨y, _, rfl⟩ := List.mem_map.1 hx
 rw [us_extract] at hc
 exact List.mem_of_mem_drop (List.mem_of_mem_take hc)
theorem disp_good (T : ByteArray) (h : opens 34 (us T) = false) (hw : ∀ x ∈ wrdS T, allc 8 x = true) : optB (dispT (us T)) = (glue [32] (wrdS T), true) := by
 have hall : (us T).all dispb = true := by
  rw [List.all_eq_true]
  intro c hc
  obtain ⟨i, hi, e⟩ := List.getElem_of_mem hc
  have hi' : i < T.size := by rw [length_us] at hi; exact hi
  have ec : T[i]'hi' = c := by
   have := get_us T i hi'
   rw [List.getElem?_eq_getElem hi, e] at this
   injection this with this; first | done | exact this.symm
  unfold dispb
  cases hb : blank c
  ·obtain ⟨y, hy, h1, h2⟩ := spans_cover T T.size 0 none [] i (by omega) (fun a h => by cases h) (Nat.zero_le _) hi' (by rw [ec]; exact hb)
   have hx := hw (us (T.extract y.1 y.2)) (by rw [wrd_spans]; exact List.mem_map.2 ⟨y, hy, rfl⟩)
   unfold allc at hx
   rw [List.all_eq_true] at hx
   have := hx c (by
    rw [us_extract, List.mem_iff_getElem?]
    refine ⟨i - y.1, ?_⟩
    rw [List.getElem?_take_of_lt (by omega), List.getElem?_drop, show y.1 + (i - y.1) = i by omega, get_us T i hi', ec])
   rw [this]; first | done | rfl
  ·rfl
 unfold dispT
 rw [h, if_neg (by decide), if_pos hall, wrd_words T hall]
 first | done | rfl
theorem disp_bad (T : ByteArray) (h : opens 34 (us T) = false) (x : List UInt8) (hx : x ∈ wrdS T) (c : UInt8) (hc : c ∈ x) (hb : testc 8 c = false) : optB (dispT (us T)) = ([], false) ∧ T.size ≠ 0 := by
 have hm := wrd_mem T x hx c hc
 refine ⟨?_, fun h0 => ?_⟩
 ·unfold dispT
  rw [h, if_neg (by decide), if_neg]
  ·rfl
  ·intro hall
   rw [wrd_words T hall] at hx
   have h1 := words_noblank (us T) [] (fun c hc => by cases hc) x hx c hc
   have h2 := List.all_eq_true.1 hall c hm
   unfold dispb at h2
   rw [h1, hb] at h2
   cases h2
 ·have : us T = [] := List.eq_nil_of_length_eq_zero (by rw [length_us]; exact h0)
  rw [this] at hm; cases hm
theorem clos_c (r : Nat) (hr : r ≤ 1114111) (w : World) : Calls Tryz.prog 107 #[.int .i32 r] w fun e w' => e = .returned (.bool (rblank r)) ∧ w' = w := by
 by_cases h1 : r = 32
 ·subst h1
  go_enter Tryz.func107, Tryz.ntmps107
  go_wp2
  go_ret
  exact ⟨rfl, rfl⟩
 by_cases h2 : r = 9
 ·subst h2
  go_enter Tryz.func107, Tryz.ntmps107
  go_wp2
  go_ret
  exact ⟨rfl, rfl⟩
 have HE := κ (show rblank r = false by unfold rblank; simp [h1, h2])
 have n1 : (((r : Int)) == 32) = false := by rw [beq_eq_false_iff_ne]; omega
 have n2 : (((r : Int)) == 9) = false := by rw [beq_eq_false_iff_ne]; omega
 clear h1 h2
 go_enter Tryz.func107, Tryz.ntmps107
 go_wp2
 go_ret
 exact ⟨ret_bool HE.out.symm, rfl⟩
theorem words_sum : ∀ (l cur : List UInt8), sumJ (wordsGo cur l) + (wordsGo cur l).length ≤ 2 * (cur.length + l.length)
 | [], cur => by
  rw [wordsGo]
  split
  ·simp [sumJ]
  ·rename_i h
   have : 0 < cur.length := List.length_pos_iff.2 h
   simp [sumJ] <;> omega
 | c :: r, cur => by
  rw [wordsGo]
  split
  ·split
   ·have := words_sum r []
    simp at this ⊢; omega
   ·rename_i h
    have h1 : 0 < cur.length := List.length_pos_iff.2 h
    have := words_sum r []
    rw [sumJ, List.length_cons]
    simp at this ⊢; omega
  ·have := words_sum r (cur ++ [c])
   rw [List.length_append] at this
   simp at this ⊢; omega
theorem wrd_good (T : ByteArray) (hw : ∀ x ∈ wrdS T, allc 8 x = true) (h : opens 34 (us T) = false) : wrdS T = wordsGo [] (us T) := by
 have hall : (us T).all dispb = true := by
  have h1 := disp_good T h hw
  unfold dispT at h1
  rw [h, if_neg (by decide)] at h1
  cases ha : (us T).all dispb
  ·rw [ha, if_neg (by decide)] at h1
   exact Bool.noConfusion (show false = true from congrArg Prod.snd h1)
  ·rfl
 exact wrd_words T hall
theorem fieldsF_c (T : ByteArray) (hT : T.size ≤ 4294967280) (w : World) :
  Calls Tryz.prog 106 #[.string T, .func (.func 107) #[] #[]] w fun e w' => ∃ A, e = .returned (.slice (some ⟨A, 0, none⟩) (wrdS T).length (wrdS T).length) ∧ RStrs w' (.slice (some ⟨A, 0, none⟩) (wrdS T).length (wrdS T).length) (wrdS T) ∧ Below w.heap.size w w' := by
 refine (Tryz.strings_FieldsFunc_runes 107 #[] (fun args w => by kernel_rfl) rblank T w (by omega) (fun W x hx _ => (clos_c x hx W).mono fun e w' ⟨a, b⟩ => ⟨a, 0, b⟩)).mono ?_
 rintro e w' ⟨A, rfl, _, hown, hB⟩
 have hl : (Go.Lib.goFieldsP rblank T).length = (wrdS T).length := by unfold wrdS; rw [List.length_map]
 have hm : (Go.Lib.goFieldsP rblank T).map Value.string = (wrdS T).map sv := by
  unfold wrdS
  rw [List.map_map]
  refine List.map_congr_left fun x _ => ?_
  simp [sv]
 rw [hl, hm] at hown
 exact ⟨A, by rw [hl], RRow.of_own hown, hB⟩
set_option maxHeartbeats 6400000 in
theorem display_c (s : ByteArray) (hs : s.size ≤ 4294967280) (w : World) :
  Calls Tryz.prog 59 #[.string s] w fun e w' => e = .returned (.tuple #[.string (bs (optB (displayS (us s))).1), .bool (optB (displayS (us s))).2]) ∧ Below w.heap.size w w' := by
 have HTR := κ (fun wx => trim_c s (by omega) wx)
 have htl := trim_le (us s)
 rw [length_us] at htl
 have hdd : displayS (us s) = dispT (trim (us s)) := rfl
 obtain ⟨T, hT⟩ : ∃ T, T = bs (trim (us s)) := ⟨_, rfl⟩
 have uT : trim (us s) = us T := by rw [hT, us_bs]
 have sT : T.size ≤ 4294967280 := by rw [hT, size_bs]; omega
 rw [← hT] at HTR
 rw [hdd, uT]
 clear hT uT hdd htl hs
 have HP := κ (fun wx => prefix_c T 34 wx)
 have hq := disp_quote (us T)
 have hg := disp_good T
 have hbd := disp_bad T
 have hwg := wrd_good T
 have HFF := κ (fun wx => fieldsF_c T sT wx)
 have hws := words_sum (us T) []
 rw [length_us] at hws
 have hmx : ∀ x ∈ wrdS T, x.length ≤ 4294967280 := by
  intro x hx
  rw [wrd_spans] at hx
  obtain ⟨y, _, rfl⟩ := List.mem_map.1 hx
  rw [us_extract, List.length_take, List.length_drop, length_us]; omega
 obtain ⟨R, hR⟩ : ∃ R, R = optB (dispT (us T)) := ⟨_, rfl⟩
 rw [← hR] at hq hg hbd ⊢
 clear hR
 obtain ⟨o, ho⟩ : ∃ o, o = opens 34 (us T) := ⟨_, rfl⟩
 rw [← ho] at HP hq hg hbd hwg
 clear ho
 cases o
 case true =>
  have HR := κ (hq rfl)
  have HU := κ (fun wx => unquote_c T (by omega) wx)
  clear hq hg hbd hwg HFF hws hmx
  obtain ⟨q, hq⟩ : ∃ q, q = unquote (us T) := ⟨_, rfl⟩
  rw [← hq] at HU HR
  clear hq
  go_enter Tryz.func59, Tryz.ntmps59
  go_wp2
  go_step3
  go_wp2_with (first | (go_at_call 50; refine (HTR.out _).mono ?_; rintro e wx ⟨rfl, rfl⟩) | (go_at_call 104; refine (HP.out _).mono ?_; rintro e wx ⟨rfl, rfl⟩) | (go_at_call 105; refine (HU.out _).mono ?_; rintro e w1 ⟨rfl, hC1⟩))
  try rw [Exit.noGoto_ret]
  go_ret2
  exact ⟨ret_sb (by rw [HR.out]) (by rw [HR.out]), hC1⟩
 case false =>
  have HG := κ (fun h => hg rfl h)
  have HBD := κ (fun x hx c hc hb => hbd rfl x hx c hc hb)
  have HSM := κ (fun h => (show sumJ (wrdS T) + (wrdS T).length ≤ 1099511627776 by rw [hwg h rfl]; simp at hws; omega))
  have HMX := κ hmx
  clear hq hg hbd hwg hws hmx
  obtain ⟨WS, hWS⟩ : ∃ x, x = wrdS T := ⟨_, rfl⟩
  rw [← hWS] at HFF HG HBD HSM HMX
  clear hWS
  go_enter Tryz.func59, Tryz.ntmps59
  go_wp2
  go_step3
  go_wp2_with (first | (go_at_call 50; refine (HTR.out _).mono ?_; rintro e wx ⟨rfl, rfl⟩) | (go_at_call 104; refine (HP.out _).mono ?_; rintro e wx ⟨rfl, rfl⟩) | (go_at_call 106; refine (HFF.out _).mono ?_; rintro e w1 ⟨A, rfl, hV, hB1⟩))
  have HC := κ (fun (j : Nat) (hj : j < WS.length) => (show w1.cell? ⟨A, j, none⟩ = some (.string (bs WS[j])) from by
   rcases hV.cases with ⟨⟨_, _, e⟩, h⟩ | ⟨b, off, c, e, _, _, _, h⟩
   ·rw [h] at hj; cases hj
   ·injection e with e; injection e with e; injection e with e1 e2
    have := h j hj
    rw [← e1, ← e2, Nat.zero_add] at this; exact this))
  have HJ := κ (fun h => join_c (.slice (some ⟨A, 0, none⟩) WS.length WS.length) WS w1 hV (HSM.out h))
  have HJ0 := κ (join_c (.slice none 0 0) [] w1 (.inl ⟨⟨_, _, rfl⟩, rfl, rfl⟩) (by decide))
  have hnn := fun w a n c n' c' => Go.run_neq_slice_nil_any (P := Tryz.prog) w 30 9 a n c n' c' Tryz.underlying30
  have hWl : WS.length ≤ 9223372036854775807 := by
   rcases hV.form with ⟨_, _, _, h, _⟩
   unfold maxLen at h; omega
  have HB1 := κ hB1
  clear hV hB1
  go_step3
  go_wp2
  go_loopg [6, 26] WS.length (fun g v i wx => ∃ k : Nat, k + g = WS.length ∧ v = (.slice (some ⟨A, 0, none⟩) WS.length WS.length) ∧ i = .int .i64 k ∧ wx = w1 ∧ Hid (∀ x ∈ WS.take k, allc 8 x = true))
  case atStart => exact ⟨0, by omega, rfl, rfl, rfl, κ (fun x hx => by simp at hx)⟩
  case round =>
   obtain ⟨k, hkg, rfl, rfl, rfl, HA⟩ := hrel
   by_cases hlt : k < WS.length
   ·cases gk with
    | zero => omega
    | succ g1 =>
     have x0 := HC.out k hlt
     have hXl := HMX.out _ (List.getElem_mem hlt)
     have HBk := κ (fun (c : UInt8) (hc : c ∈ WS[k]) (hb : testc 8 c = false) => HBD.out WS[k] (List.getElem_mem hlt) c hc hb)
     have HNX := κ (fun (h : allc 8 WS[k] = true) => (show ∀ x ∈ WS.take (k + 1), allc 8 x = true from fun x hx => by
      rw [List.take_succ_eq_append_getElem hlt] at hx
      rcases List.mem_append.1 hx with hx | hx
      ·exact HA.out x hx
      ·rw [List.mem_singleton.1 hx]; exact h))
     obtain ⟨X, hX⟩ : ∃ X, X = bs WS[k] := ⟨_, rfl⟩
     have hXs : X.size ≤ 4294967280 := by rw [hX, size_bs]; exact hXl
     have uX : WS[k] = us X := by rw [hX, us_bs]
     rw [← hX] at x0
     rw [uX] at HBk HNX
     have k0 : (0 : Int) ≤ (k : Int) := by omega
     have k1 : (k : Int) < (WS.length : Int) := by omega
     clear hX uX hXl
     go_wp2
     go_loopg [6, 32] X.size (fun g v j wx => ∃ m : Nat, m + g = X.size ∧ v = (.slice (some ⟨A, 0, none⟩) WS.length WS.length) ∧ j = .int .i64 m ∧ wx = wr ∧ Hid (((us X).take m).all (testc 8) = true))
     case atStart => exact ⟨0, by omega, rfl, rfl, rfl, κ rfl⟩
     case round =>
      obtain ⟨m, hmg, rfl, rfl, rfl, HM⟩ := hrel
      by_cases hlt2 : m < X.size
      ·cases gk with
       | zero => omega
       | succ g2 =>
        have hst := take_us X m hlt2
        have hmem := List.mem_of_getElem? (get_us X m hlt2)
        cases hb : testc 8 X[m]
        ·obtain ⟨hR, hT0⟩ := HBk.out X[m] hmem hb
         have HR := κ hR
         have pE := ne_empty hT0
         have pF := isEmpty_f hT0
         have t1 : (bits BinOp.and IntKind.i64 (cls X[m]) 8 == 0) = true := by unfold testc at hb; simpa using hb
         clear hR hT0 hmem hst hb
         go_wp2_with (first | (go_at_call 92; refine (class_c _ _).mono ?_; rintro e w' ⟨rfl, rfl⟩) | (go_at_call 108; refine (HJ0.out).mono ?_; rintro e w2 ⟨rfl, hC2⟩))
         try rw [Exit.noGoto_ret]
         go_ret2
         exact ⟨ret_sb (by rw [HR.out]; rfl) (by rw [HR.out]), HB1.out.trans (hC2.mono HB1.out.size)⟩
        ·have t1 : (bits BinOp.and IntKind.i64 (cls X[m]) 8 == 0) = false := by unfold testc at hb; simpa using hb
         have HM2 := κ (show ((us X).take (m + 1)).all (testc 8) = true by rw [hst, List.all_append, HM.out]; simp [hb])
         clear hmem hst hb
         go_wp2_with (go_at_call 92; refine (class_c _ _).mono ?_; rintro e w' ⟨rfl, rfl⟩)
         go_roundg g2
         case measure => omega
         case rel => exact ⟨m + 1, by omega, rfl, by go_num, rfl, HM2⟩
      ·have hM := HM.out
       rw [List.take_of_length_le (by rw [length_us]; omega)] at hM
       have HA2 := κ (HNX.out hM)
       clear hM
       go_wp2
       go_roundg g1
       case measure => omega
       case rel => exact ⟨k + 1, by omega, rfl, by go_num, rfl, HA2⟩
   ·have hA := HA.out
    rw [List.take_of_length_le (by omega)] at hA
    have HR := κ (HG.out hA)
    have HJ1 := κ (HJ.out hA)
    clear hA
    go_wp2_with (first | (go_at_call 108; refine (HJ1.out).mono ?_; rintro e w2 ⟨rfl, hC2⟩))
    try rw [Exit.noGoto_ret]
    go_ret2
    exact ⟨ret_sb (by rw [HR.out]) (by rw [HR.out]), HB1.out.trans (hC2.mono HB1.out.size)⟩
theorem ang_end (q : Bool) (k : Int) : angGo q [] k = -1 := by rw [angGo]
theorem ang_step (s : ByteArray) (b : Bool) (k : Nat) (h : k < s.size) (hp : angS (us s) = angGo b ((us s).drop k) (k : Int)) :
  (b = true ∧ ((s[k].toNat : Int) == 92) = true ∧ angS (us s) = angGo b ((us s).drop (k + 2)) ((k + 2 : Nat) : Int)) ∨
  ((b = false ∨ ((s[k].toNat : Int) == 92) = false) ∧ ((s[k].toNat : Int) == 34) = true ∧ angS (us s) = angGo (!b) ((us s).drop (k + 1)) ((k + 1 : Nat) : Int)) ∨
  ((b = false ∨ ((s[k].toNat : Int) == 92) = false) ∧ ((s[k].toNat : Int) == 34) = false ∧ b = false ∧ ((s[k].toNat : Int) == 60) = true ∧ angS (us s) = (k : Int)) ∨
  ((b = false ∨ ((s[k].toNat : Int) == 92) = false) ∧ ((s[k].toNat : Int) == 34) = false ∧ (b = true ∨ ((s[k].toNat : Int) == 60) = false) ∧ angS (us s) = angGo b ((us s).drop (k + 1)) ((k + 1 : Nat) : Int)) := by
 rw [hp, drop_us s k h]
 have t : ∀ n : Nat, ((s[k].toNat : Int) == (n : Int)) = decide (s[k].toNat = n) := fun n => by
  rw [Bool.eq_iff_iff, beq_iff_eq, decide_eq_true_iff]; omega
 have t92 := t 92
 have t34 := t 34
 have t60 := t 60
 simp only [Int.cast_ofNat_Int] at t92 t34 t60
 rw [t92, t34, t60]
 by_cases h1 : b = true ∧ s[k].toNat = 92
 ·refine .inl ⟨h1.1, decide_eq_true h1.2, ?_⟩
  obtain ⟨rfl, h2⟩ := h1
  by_cases h3 : k + 1 < s.size
  ·rw [drop_us s (k + 1) h3, ang_esc _ _ _ _ h2]
   congr 1
  ·rw [drop_us_end s (k + 1) (by omega), drop_us_end s (k + 2) (by omega), ang_end]
   rw [angGo.eq_def]; dsimp only; rw [if_pos ⟨rfl, h2⟩]
 ·refine .inr ?_
  have hb : b = false ∨ decide (s[k].toNat = 92) = false := by
   cases b
   ·exact .inl rfl
   ·exact .inr (decide_eq_false (fun e => h1 ⟨rfl, e⟩))
  rw [ang_cons _ _ _ _ h1]
  by_cases h2 : s[k].toNat = 34
  ·exact .inl ⟨hb, decide_eq_true h2, by rw [if_pos h2]; rfl⟩
  ·refine .inr ?_
   rw [if_neg h2]
   by_cases h3 : b = false ∧ s[k].toNat = 60
   ·exact .inl ⟨hb, decide_eq_false h2, h3.1, decide_eq_true h3.2, by rw [if_pos h3]⟩
   ·refine .inr ⟨hb, decide_eq_false h2, ?_, by rw [if_neg h3]; rfl⟩
    cases b
    ·exact .inr (decide_eq_false (fun e => h3 ⟨rfl, e⟩))
    ·exact .inl rfl
theorem ang_ge : ∀ (n : Nat) (l : List UInt8) (q : Bool) (k : Int), l.length ≤ n → 0 ≤ k → angGo q l k = -1 ∨ (k ≤ angGo q l k ∧ angGo q l k < k + l.length)
 | n, [], q, k, _, _ => .inl (ang_end q k)
 | 0, c :: r, q, k, h, _ => by simp at h
 | n + 1, c :: r, q, k, h, hk => by
  rw [List.length_cons] at h
  by_cases h1 : q = true ∧ c.toNat = 92
  ·cases r with
   | nil => left; rw [angGo.eq_def]; dsimp only; rw [if_pos h1]
   | cons d r =>
    obtain ⟨rfl, h2⟩ := h1
    rw [ang_esc _ _ _ _ h2]
    rcases ang_ge n r true (k + 2) (by simp at h; omega) (by omega) with h3 | h3
    ·exact .inl h3
    ·right; simp; omega
  ·rw [ang_cons _ _ _ _ h1]
   split
   ·rcases ang_ge n r (!q) (k + 1) (by omega) (by omega) with h3 | h3
    ·exact .inl h3
    ·right; simp; omega
   ·split
    ·right; simp; omega
    ·rcases ang_ge n r q (k + 1) (by omega) (by omega) with h3 | h3
     ·exact .inl h3
     ·right; simp; omega
theorem angS_lt (l : List UInt8) : angS l = -1 ∨ (0 ≤ angS l ∧ angS l < l.length) := by
 rcases ang_ge l.length l false 0 (ρ _) (Int.le_refl _) with h | h
 ·exact .inl h
 ·exact .inr ⟨h.1, by have := h.2; unfold angS; omega⟩
set_option maxHeartbeats 1600000 in
theorem angle_c (s : ByteArray) (hs : s.size ≤ 4294967280) (w : World) :
  Calls Tryz.prog 56 #[.string s] w fun e w' => e = .returned (.int .i64 (angS (us s))) ∧ w = w' := by
 have HST := κ (fun b k h hp => ang_step s b k h hp)
 go_enter Tryz.func56, Tryz.ntmps56
 go_wp2
 go_loop [3, 4] (fun q i => ∃ (b : Bool) (k : Nat), k ≤ s.size + 1 ∧ q = .bool b ∧ i = .int .i64 k ∧ Hid (angS (us s) = angGo b ((us s).drop k) (k : Int))) (fun _ i => s.size + 1 - (intOf i).toNat)
 case atStart => exact ⟨false, 0, Nat.zero_le _, rfl, rfl, κ rfl⟩
 case round =>
  obtain ⟨b, k, hk, rfl, rfl, HP⟩ := hrel
  by_cases hlt : k < s.size
  ·have k0 : (0 : Int) ≤ (k : Int) := by omega
   have k1 : (k : Int) < (s.size : Int) := by omega
   rcases HST.out b k hlt HP.out with ⟨rfl, h1, hn⟩ | ⟨h1, h2, hn⟩ | ⟨h1, h2, rfl, h3, hn⟩ | ⟨h1, h2, h3, hn⟩
   ·have HN := κ hn
    clear hn HP
    go_wp2
    go_round
    case rel => exact ⟨true, k + 2, by omega, rfl, by go_num, HN⟩
    case measure => simp [intOf]; omega
   ·have HN := κ hn
    clear hn HP
    cases b
    all_goals
     first | (have h4 : ((s[k].toNat : Int) == 92) = false := by simpa using h1) | skip
     clear h1
     go_wp2
     go_round
     case rel => exact ⟨_, k + 1, by omega, rfl, by go_num, HN⟩
     case measure => simp [intOf]; omega
   ·have HN := κ hn
    clear hn HP h1
    go_wp2
    go_ret
    exact ⟨ret_int HN.out.symm, rfl⟩
   ·have HN := κ hn
    clear hn HP
    cases b
    ·have h4 : ((s[k].toNat : Int) == 60) = false := by simpa using h3
     clear h1 h3
     go_wp2
     go_round
     case rel => exact ⟨_, k + 1, by omega, rfl, by go_num, HN⟩
     case measure => simp [intOf]; omega
    ·have h4 : ((s[k].toNat : Int) == 92) = false := by simpa using h1
     clear h1 h3
     go_wp2
     go_round
     case rel => exact ⟨_, k + 1, by omega, rfl, by go_num, HN⟩
     case measure => simp [intOf]; omega
  ·have HN := κ (show angS (us s) = -1 by rw [HP.out, drop_us_end s k (by omega), ang_end])
   clear HP
   go_wp2
   go_ret
   exact ⟨ret_int HN.out.symm, rfl⟩
theorem indexRuneQ_high (T : ByteArray) (hT : T = ⟨#[63, 44, 34]⟩) (r : Int) (h0 : 128 ≤ r) (h1 : r ≤ 2147483647) (w : World) :
  Calls Tryz.prog 155 #[.string T, .int .i32 r] w fun e w' => e = .returned (.int .i64 (-1)) ∧ Below w.heap.size w w' := by
 have hz : ¬ (r < 128) := by omega
 have h00 : (0 : Int) ≤ r := by omega
 by_cases hR : r = 65533
 ·subst hR
  subst hT
  have n0 := fun ty => run_next_ascii (P := Tryz.prog) w ⟨#[63, 44, 34]⟩ 0 ty (by decide) (by decide)
  have n1 := fun ty => run_next_ascii (P := Tryz.prog) w ⟨#[63, 44, 34]⟩ 1 ty (by decide) (by decide)
  have n2 := fun ty => run_next_ascii (P := Tryz.prog) w ⟨#[63, 44, 34]⟩ 2 ty (by decide) (by decide)
  have n3 := run_next_end (P := Tryz.prog) w ⟨#[63, 44, 34]⟩ 3
  go_enter Tryz.func155, Tryz.ntmps155
  go_wp2
  go_loopg [5, 6] 3 (fun g _ _ wx => ∃ i : Nat, i + g = 3 ∧ wx = w.iter ⟨#[63, 44, 34]⟩ i)
  case atStart => exact ⟨0, rfl, rfl⟩
  case round =>
   obtain ⟨i, hig, rfl⟩ := hrel
   have hi : i = 0 ∨ i = 1 ∨ i = 2 ∨ i = 3 := by omega
   rcases hi with rfl | rfl | rfl | rfl
   ·obtain rfl : gk = 3 := by omega
    go_wp2
    go_roundg 2
    case measure => omega
    case rel => exact ⟨1, rfl, rfl⟩
   ·obtain rfl : gk = 2 := by omega
    go_wp2
    go_roundg 1
    case measure => omega
    case rel => exact ⟨2, rfl, rfl⟩
   ·obtain rfl : gk = 1 := by omega
    go_wp2
    go_roundg 0
    case measure => omega
    case rel => exact ⟨3, rfl, rfl⟩
   ·go_wp2
    go_ret
    exact ⟨rfl, (Below.refl _ _).alloc (ρ _) _⟩
 ·have hRb : (r == 65533) = false := by simpa using hR
  have HVR := κ (fun wx => validRune_c r wx)
  cases hv : Utf8.valid r
  ·rw [hv] at HVR
   clear hv
   go_enter Tryz.func155, Tryz.ntmps155
   go_wp2_with (go_at_call 189; refine (HVR.out _).mono ?_; rintro e wx ⟨rfl, rfl⟩)
   go_ret
   exact ⟨rfl, Below.refl _ _⟩
  ·obtain ⟨e1, e2, e3⟩ := encode_facts r hv h0
   rw [hv] at HVR
   clear hv
   obtain ⟨S, hS⟩ : ∃ S, Utf8.encode r = S := ⟨_, rfl⟩
   rw [hS] at e1 e2 e3
   by_cases h2 : S.size = 2
   ·have p1 : 1 < S.size := by omega
    have zS : (S.size : Int) = 2 := by omega
    have hb : 128 ≤ (S[1]'p1).toNat := by
     have := e3 (by omega)
     simpa [h2] using this
    have z1 : 1 < T.size := by rw [hT]; decide
    have q1 : ((((T[1]'z1).toNat : Int)) == ((S[1]'p1).toNat : Int)) = false := by subst hT; show ((44 : Int) == _) = false; simp; omega
    have HI := κ (fun wx => show Calls Tryz.prog 58 #[.string (T.extract 2 T.size), .int .u8 ((S[1]'p1).toNat : Int)] wx fun e w' => e = .returned (.int .i64 (-1)) ∧ wx = w' from
     (Tryz.strings_IndexByte _ ((S[1]'p1).toNat : Int) wx).mono fun e w' ⟨a, b⟩ => ⟨a.trans (by
      rw [hT]
      have hn : ((S[1]'p1).toNat : Int).toNat.toUInt8 ≠ 34 := by
       simp
       intro e
       rw [e] at hb
       exact absurd hb (by decide)
      first
       | rfl
       | (
         show Ending.returned (Value.int .i64 (Lib.indexByte [34] _)) = _
         rw [Lib.indexByte, if_neg (by intro h; apply hn; have h2 := eq_of_beq h; exact h2.symm)]; rfl)), b.symm⟩)
    have z2 : (T.size : Int) = 3 := by rw [hT]; rfl
    have w2 : IntKind.i64.wrap 2 = 2 := by decide
    have q3 : ((((T[1]'z1).toNat : Int)) != ((S[1]'p1).toNat : Int)) = true := by simpa using q1
    clear hT e1 e2 e3 h2 hb
    go_enter Tryz.func155, Tryz.ntmps155
    go_wp2_with (go_at_call 189; refine (HVR.out _).mono ?_; rintro e wx ⟨rfl, rfl⟩)
    go_wp2
    go_step3
    go_wp2
    go_loopg [9] 0 (fun _ x wr => x = .int .i64 1 ∧ wr = w)
    case atStart => exact ⟨rfl, rfl⟩
    case round =>
     obtain ⟨rfl, rfl⟩ := hrel
     go_wp2
     go_step3
     go_wp2
     go_quiet (fail)
     go_wp2
     go_quiet ((go_at_call 58; exact quiet_same2 (HI.out _)))
     go_wp2
     rw [Exit.noGoto_ret]
     simp only [Exit.inBlock, Exit.then, Exit.noGoto_ret]
     go_ret
     exact ⟨rfl, Drn.below ⟨_, rfl⟩⟩
   by_cases h3 : S.size = 3
   ·have p1 : 2 < S.size := by omega
    have zS : (S.size : Int) = 3 := by omega
    have hb : 128 ≤ (S[2]'p1).toNat := by
     have := e3 (by omega)
     simpa [h3] using this
    have z1 : 2 < T.size := by rw [hT]; decide
    have q1 : ((((T[2]'z1).toNat : Int)) == ((S[2]'p1).toNat : Int)) = false := by subst hT; show ((34 : Int) == _) = false; simp; omega
    have HI := κ (fun wx => show Calls Tryz.prog 58 #[.string (T.extract 3 T.size), .int .u8 ((S[2]'p1).toNat : Int)] wx fun e w' => e = .returned (.int .i64 (-1)) ∧ wx = w' from
     (Tryz.strings_IndexByte _ ((S[2]'p1).toNat : Int) wx).mono fun e w' ⟨a, b⟩ => ⟨a.trans (by
      rw [hT]
      have hn : ((S[2]'p1).toNat : Int).toNat.toUInt8 ≠ 34 := by
       simp
       intro e
       rw [e] at hb
       exact absurd hb (by decide)
      first
       | rfl
       | (
         show Ending.returned (Value.int .i64 (Lib.indexByte [34] _)) = _
         rw [Lib.indexByte, if_neg (by intro h; apply hn; have h2 := eq_of_beq h; exact h2.symm)]; rfl)), b.symm⟩)
    have z2 : (T.size : Int) = 3 := by rw [hT]; rfl
    have w2 : IntKind.i64.wrap 3 = 3 := by decide
    have q3 : ((((T[2]'z1).toNat : Int)) != ((S[2]'p1).toNat : Int)) = true := by simpa using q1
    clear hT e1 e2 e3 h3 hb
    go_enter Tryz.func155, Tryz.ntmps155
    go_wp2_with (go_at_call 189; refine (HVR.out _).mono ?_; rintro e wx ⟨rfl, rfl⟩)
    go_wp2
    go_step3
    go_wp2
    go_loopg [9] 0 (fun _ x wr => x = .int .i64 2 ∧ wr = w)
    case atStart => exact ⟨rfl, rfl⟩
    case round =>
     obtain ⟨rfl, rfl⟩ := hrel
     go_wp2
     go_step3
     go_wp2
     go_quiet (fail)
     go_wp2
     go_quiet ((go_at_call 58; exact quiet_same2 (HI.out _)))
     go_wp2
     rw [Exit.noGoto_ret]
     simp only [Exit.inBlock, Exit.then, Exit.noGoto_ret]
     go_ret
     exact ⟨rfl, Drn.below ⟨_, rfl⟩⟩
   have h4 : ¬ ((S.size : Int) - 1 < 3) := by omega
   have w1 : IntKind.i64.wrap ((S.size : Int) - 1) = (S.size : Int) - 1 := IntWalk.i64_in _ (by omega)
   clear e1 e2 e3 h2 h3
   have z2 : (T.size : Int) = 3 := by rw [hT]; rfl
   clear hT
   go_enter Tryz.func155, Tryz.ntmps155
   go_wp2_with (go_at_call 189; refine (HVR.out _).mono ?_; rintro e wx ⟨rfl, rfl⟩)
   go_wp2
   go_step3
   go_wp2
   go_loopg [9] 0 (fun _ x wr => x = .int .i64 ((S.size : Int) - 1) ∧ wr = w)
   case atStart => exact ⟨rfl, rfl⟩
   case round =>
    obtain ⟨rfl, rfl⟩ := hrel
    go_wp2
    rw [Exit.noGoto_ret]
    go_ret
    exact ⟨rfl, Below.refl _ _⟩
theorem barb_idx (c : UInt8) : decide ((0 : Int) ≤ Lib.indexByte [63, 44, 34] c) = barb c :=
 all_bytes (fun c => decide ((0 : Int) ≤ Lib.indexByte [63, 44, 34] c) = barb c) (by decide +kernel) c
theorem barb_high (c : UInt8) (h : 128 ≤ c.toNat) : barb c = false := by
 have := all_bytes (fun c => 128 ≤ c.toNat → barb c = false) (by decide +kernel) c
 exact this h
theorem anyQ_more (s : ByteArray) (i : Nat) (hi : i < s.size) (hp : ((us s).take i).any barb = false) (hb : barb s[i] = false) : ((us s).take (i + 1)).any barb = false := by
 rw [take_us s i hi, List.any_append, hp]; simp [hb]
theorem anyQ_hit (s : ByteArray) (i : Nat) (hi : i < s.size) (hb : barb s[i] = true) : (us s).any barb = true :=
 List.any_eq_true.2 ⟨_, by have := get_us s i hi; exact List.mem_of_getElem? this, hb⟩
theorem anyQ_high (s : ByteArray) (i : Nat) (hi : i < s.size) (ha : 128 ≤ (s[i]'hi).toNat) (hp : ((us s).take i).any barb = false) : ∀ n, n ≤ (Utf8.decode s i).2 → ((us s).take (i + n)).any barb = false
 | 0, _ => hp
 | n + 1, hn => by
  have ih := anyQ_high s i hi ha hp n (by omega)
  by_cases hj : i + n < s.size
  ·exact anyQ_more s (i + n) hj ih (barb_high _ (decode_cont s i hi ha n (by omega) hj))
  ·rw [take_all s _ (by omega)] at ih
   rw [take_all s _ (by omega)]; exact ih
set_option maxHeartbeats 6400000 in
theorem indexAnyQ_short (T : ByteArray) (hT : T = ⟨#[63, 44, 34]⟩) (s : ByteArray) (h8 : s.size ≤ 8) (w : World) :
  Calls Tryz.prog 102 #[.string s, .string T] w fun e w' => ∃ i, e = .returned (.int .i64 i) ∧ decide (0 ≤ i) = (us s).any barb ∧ Below w.heap.size w w' := by
 have HT := κ hT
 have hemp : T.toList.isEmpty = false := by rw [hT, isEmpty_us]; rfl
 have hn1 : ((T.size : Int) == 1) = false := by rw [hT]; rfl
 have h8z : decide ((8 : Int) < (s.size : Int)) = false := decide_eq_false (by omega)
 have HA := κ (fun (x : UInt8) (hx : x.toNat < 128) wx => show Calls Tryz.prog 155 #[.string T, .int .i32 x.toNat] wx fun e w' => e = .returned (.int .i64 (Lib.indexByte [63, 44, 34] x)) ∧ wx = w' from
  (Tryz.strings_IndexRune_ascii T x.toNat wx (by omega) (by omega)).mono fun e w' ⟨a, b⟩ => ⟨a.trans (by rw [hT]; simp), b.symm⟩)
 have HH := κ (fun r h0 h1 wx => indexRuneQ_high T hT r h0 h1 wx)
 clear hT
 go_enter Tryz.func102, Tryz.ntmps102
 go_wp2_with (go_at_call 156; refine (Tryz.strings_shouldUseASCIISet _ _).mono ?_; rintro e w' ⟨rfl, hw⟩; rw [hw, h8z])
 go_loopg [9, 10] s.size (fun g _ _ wx => ∃ i : Nat, s.size ≤ i + g ∧ wx.heap[w.heap.size]? = some (.stringIter s i) ∧ Below w.heap.size w wx ∧ ((us s).take i).any barb = false)
 case atStart => exact ⟨0, by omega, World.iter_heap _ _ _, (Below.refl _ _).alloc (ρ _) _, rfl⟩
 case round =>
  obtain ⟨i, hig, hit, hB, hno⟩ := hrel
  have HN := κ hno
  have HIT := κ hit
  have HB := κ hB
  clear hno hB
  by_cases hi : i < s.size
  ·cases gk with
   | zero => omega
   | succ g =>
    obtain ⟨x, hx⟩ : ∃ x : UInt8, s[i]'hi = x := ⟨_, rfl⟩
    by_cases hx128 : x.toNat < 128
    ·have hnx := fun ty => Lib.run_next_ascii_at (P := Tryz.prog) wr w.heap.size s i ty hit hi (by rw [hx]; exact hx128)
     rw [hx] at hnx
     have HA' := κ (HA.out x hx128)
     have hbi := barb_idx x
     cases hin : barb x
     ·have HB2 := κ (anyQ_more s i hi HN.out (by rw [hx]; exact hin))
      rw [hin] at hbi
      have hlt : ¬ ((0 : Int) ≤ Lib.indexByte [63, 44, 34] x) := of_decide_eq_false hbi
      obtain ⟨z, hz⟩ : ∃ z, z = Lib.indexByte [63, 44, 34] x := ⟨_, rfl⟩
      rw [← hz] at HA' hlt
      clear hbi hin hx hit hz
      go_wp2_with (go_at_call 155; refine (HA'.out _).mono ?_; rintro e w' ⟨rfl, rfl⟩)
      go_roundg g
      case measure => omega
      case rel => exact ⟨i + 1, by omega, Lib.iterAt_heap _ _ _ _ _ HIT.out, Lib.below_iterAt HB.out (ρ _) _ _, HB2.out⟩
     ·have HB2 := κ (anyQ_hit s i hi (by rw [hx]; exact hin))
      rw [hin] at hbi
      have hge : ((0 : Int) ≤ Lib.indexByte [63, 44, 34] x) := of_decide_eq_true hbi
      obtain ⟨z, hz⟩ : ∃ z, z = Lib.indexByte [63, 44, 34] x := ⟨_, rfl⟩
      rw [← hz] at HA' hge
      clear hbi hin hx hit hz
      go_wp2_with (go_at_call 155; refine (HA'.out _).mono ?_; rintro e w' ⟨rfl, rfl⟩)
      go_ret
      exact ⟨_, rfl, by rw [HB2.out]; exact decide_eq_true (by omega), Lib.below_iterAt HB.out (ρ _) _ _⟩
    ·have hnx := fun ty => Lib.run_next_any_at (P := Tryz.prog) wr w.heap.size s i ty hit hi
     have hr := decode_high s i hi (by rw [hx]; omega)
     have hr2 := decode_le s i
     have HB2 := κ (anyQ_high s i hi (by rw [hx]; omega) HN.out _ (ρ _))
     obtain ⟨d, hd⟩ : ∃ d, d = Utf8.decode s i := ⟨_, rfl⟩
     rw [← hd] at hnx hr hr2 HB2
     obtain ⟨r, wd⟩ := d
     dsimp only at hnx hr hr2 HB2
     have HA' := κ (HH.out (r : Int) (by omega) (by omega))
     have hm1 : ¬ ((0 : Int) ≤ -1) := by decide
     have hw1 : 1 ≤ wd := hr.2
     clear hd hx hit hx128 hr hr2
     go_wp2_with (go_at_call 155; refine (HA'.out _).mono ?_; rintro e w' ⟨rfl, hC⟩)
     go_roundg g
     case measure => omega
     case rel =>
      refine ⟨i + wd, by omega, ?_, ?_, HB2.out⟩
      ·rw [hC.block _ (by rw [Lib.iterAt_size]; exact (Array.getElem?_eq_some_iff.1 HIT.out).1)]
       exact Lib.iterAt_heap _ _ _ _ _ HIT.out
      ·have h1 := Lib.below_iterAt HB.out (ρ _) s (i + wd)
       exact h1.trans (hC.mono h1.size)
  ·have hnx := fun ty => Lib.run_next_end_at (P := Tryz.prog) wr w.heap.size s i ty hit hi
   have HB2 := κ (show (us s).any barb = false by rw [← take_all s i (by omega)]; exact HN.out)
   clear hit
   go_wp2
   go_ret
   exact ⟨_, rfl, by rw [HB2.out]; rfl, HB.out⟩
theorem indexAnyQ_any (l : List UInt8) : decide ((0 : Int) ≤ Lib.indexAny l [63, 44, 34]) = l.any barb := by
 induction l with
 | nil => rfl
 | cons c r ih =>
  have hb := all_bytes (fun c => ([63, 44, 34] : List UInt8).contains c = barb c) (by decide +kernel) c
  have hg := Lib.indexAny_ge [63, 44, 34] r
  rw [Lib.indexAny, hb, List.any_cons, ← ih]
  cases barb c
  ·simp only [Bool.false_or, Bool.false_eq_true, if_false]
   by_cases h : Lib.indexAny r [63, 44, 34] = -1
   ·rw [h]; rfl
   ·rw [if_neg (by simpa using h)]
    rw [decide_eq_decide]; omega
  ·rfl
theorem indexAnyQ_c (T : ByteArray) (hT : T = ⟨#[63, 44, 34]⟩) (s : ByteArray) (hs : s.size < 4294967281) (w : World) :
  Calls Tryz.prog 102 #[.string s, .string T] w fun e w' => ∃ i, e = .returned (.int .i64 i) ∧ decide (0 ≤ i) = (us s).any barb ∧ Below w.heap.size w w' := by
 by_cases h8 : s.size ≤ 8
 ·exact indexAnyQ_short T hT s h8 w
 ·subst hT
  refine (Tryz.strings_IndexAny_long (zero_of_info (show (Tryz.prog.info? 157).map (fun i => (i.zero, i.size)) = some (some (.agg (Array.replicate 256 (.bool false))), 256) by kernel_rfl)).1 s ⟨#[63, 44, 34]⟩ w (by decide) (by omega) hs (by decide) ?_).mono ?_
  ·intro j b hj
   have : b ∈ ([63, 44, 34] : List UInt8) := List.mem_of_getElem? hj
   simp only [List.mem_cons, List.not_mem_nil, or_false] at this
   rcases this with rfl | rfl | rfl <;> decide
  ·rintro e w' ⟨rfl, rfl⟩
   exact ⟨_, rfl, indexAnyQ_any _, ((Below.refl _ _).alloc (ρ _) _).alloc (by simp) _⟩
theorem containsAnyQ_c (s : ByteArray) (hs : s.size < 4294967281) (w : World) :
  Calls Tryz.prog 57 #[.string s, .string ⟨#[63, 44, 34]⟩] w fun e w' => e = .returned (.bool ((us s).any barb)) ∧ Below w.heap.size w w' := by
 have H := κ (indexAnyQ_c _ rfl s hs w)
 go_enter Tryz.func57, Tryz.ntmps57
 go_wp2_with (go_at_call 102; refine H.out.mono ?_; rintro e wx ⟨i, rfl, hi, hB⟩; have HI := κ hi; clear hi)
 go_ret
 exact ⟨ret_bool HI.out, hB⟩
end Go.Proofs.YtipdiddjhimdcaaGreatDoor
