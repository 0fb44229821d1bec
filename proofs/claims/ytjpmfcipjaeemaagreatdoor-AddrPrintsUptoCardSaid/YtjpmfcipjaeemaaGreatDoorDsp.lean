/-
  addr.display, by strings.FieldsFunc and strings.Join.
-/
import Derived.Test.YtjpmfcipjaeemaaGreatDoorAds
import Derived.Test.YtjpmfcipjaeemaaGreatDoorUrc
import Derived.Test.YtjpmfcipjaeemaaGreatDoorJoi
import Derived.Test.YtjpmfcipjaeemaaGreatDoorShelf
import Derived.Laws.RangeAny
import Derived.Lib.FieldsP
import Derived.Deep.LoopGhost
namespace Go.Proofs.YtjpmfcipjaeemaaGreatDoor
open Go.RowKit

def rblank (n : Nat) : Bool := n == 32 || n == 9
open Go.Lib in
theorem spans_mono (p : Nat → Bool) (s : ByteArray) : ∀ (f pos : Nat) (st : Option Nat) (acc : List (Nat × Nat)),
    (∀ x ∈ acc, x ∈ closeSpans s (spansFromP p s f pos st acc)) ∧ (∀ a, st = some a → ∃ b, (a, b) ∈ closeSpans s (spansFromP p s f pos st acc) ∧ ∀ i, i < pos → i < s.size → i < b)
  | 0, pos, st, acc => by
    unfold spansFromP closeSpans
    cases st with
    | none => exact ⟨fun x hx => hx, fun a h => by cases h⟩
    | some a =>
      refine ⟨fun x hx => List.mem_append_left _ hx, fun b h => ?_⟩
      injection h with h
      subst h
      exact ⟨s.size, by simp, fun i _ h => h⟩
  | f + 1, pos, st, acc => by
    unfold spansFromP
    by_cases hp : pos < s.size
    · rw [if_pos hp]
      by_cases hq : p (Utf8.decode s pos).1 = true
      · rw [if_pos hq]
        cases st with
        | none =>
          have := spans_mono p s f (pos + (Utf8.decode s pos).2) none acc
          exact ⟨this.1, fun a h => by cases h⟩
        | some a =>
          have := spans_mono p s f (pos + (Utf8.decode s pos).2) none (acc ++ [(a, pos)])
          refine ⟨fun x hx => this.1 x (List.mem_append_left _ hx), fun b h => ?_⟩
          injection h with h
          subst h
          exact ⟨pos, this.1 _ (by simp), fun i h _ => h⟩
      · rw [if_neg hq]
        cases st with
        | none =>
          have := spans_mono p s f (pos + (Utf8.decode s pos).2) (some pos) acc
          exact ⟨this.1, fun a h => by cases h⟩
        | some a =>
          have := spans_mono p s f (pos + (Utf8.decode s pos).2) (some a) acc
          refine ⟨this.1, fun b h => ?_⟩
          injection h with h
          subst h
          obtain ⟨b, h1, h2⟩ := this.2 a rfl
          exact ⟨b, h1, fun i hi hs => h2 i (by omega) hs⟩
    · rw [if_neg hp]
      unfold closeSpans
      cases st with
      | none => exact ⟨fun x hx => hx, fun a h => by cases h⟩
      | some a =>
        refine ⟨fun x hx => List.mem_append_left _ hx, fun b h => ?_⟩
        injection h with h
        subst h
        exact ⟨s.size, by simp, fun i _ h => h⟩
open Go.Lib in
theorem spans_cover (s : ByteArray) : ∀ (f pos : Nat) (st : Option Nat) (acc : List (Nat × Nat)) (i : Nat), s.size ≤ pos + f → (∀ a, st = some a → a ≤ pos) → pos ≤ i → (hi : i < s.size) → blank s[i] = false →
    ∃ x ∈ closeSpans s (spansFromP rblank s f pos st acc), x.1 ≤ i ∧ i < x.2
  | 0, pos, st, acc, i, hf, _, h1, hi, _ => by omega
  | f + 1, pos, st, acc, i, hf, ha, h1, hi, hb => by
    have hp : pos < s.size := by omega
    have hw : 1 ≤ (Utf8.decode s pos).2 := by
      by_cases h : (s[pos]'hp).toNat < 128
      · rw [decode_ascii s pos hp h]; exact Nat.le_refl _
      · exact (decode_high s pos hp (by omega)).2
    by_cases hfar : pos + (Utf8.decode s pos).2 ≤ i
    · unfold spansFromP
      rw [if_pos hp]
      by_cases hq : rblank (Utf8.decode s pos).1 = true
      · rw [if_pos hq]
        cases st with
        | none => exact spans_cover s f _ none acc i (by omega) (fun a h => by cases h) hfar hi hb
        | some a => exact spans_cover s f _ none _ i (by omega) (fun a h => by cases h) hfar hi hb
      · rw [if_neg hq]
        cases st with
        | none => exact spans_cover s f _ (some pos) acc i (by omega) (fun a h => by injection h with h; omega) hfar hi hb
        | some a => exact spans_cover s f _ (some a) acc i (by omega) (fun b h => by injection h with h; have := ha a rfl; omega) hfar hi hb
    · have hq : ¬ rblank (Utf8.decode s pos).1 = true := by
        intro hq
        unfold rblank at hq
        simp only [Bool.or_eq_true, beq_iff_eq] at hq
        by_cases h128 : (s[pos]'hp).toNat < 128
        · have hd := decode_ascii s pos hp h128
          rw [hd] at hq hfar
          have hip : i = pos := by dsimp only at hfar; omega
          subst hip
          have : blank s[i] = true := by
            have hall := all_bytes (fun c => c.toNat = 32 ∨ c.toNat = 9 → blank c = true) (by decide +kernel) s[i]
            exact hall hq
          rw [hb] at this; cases this
        · have := (decode_high s pos hp (by omega)).1
          omega
      unfold spansFromP
      rw [if_pos hp, if_neg hq]
      cases st with
      | none =>
        obtain ⟨b, m, hb'⟩ := (spans_mono rblank s f (pos + (Utf8.decode s pos).2) (some pos) acc).2 pos rfl
        exact ⟨_, m, h1, hb' i (by omega) hi⟩
      | some a =>
        obtain ⟨b, m, hb'⟩ := (spans_mono rblank s f (pos + (Utf8.decode s pos).2) (some a) acc).2 a rfl
        exact ⟨_, m, Nat.le_trans (ha a rfl) h1, hb' i (by omega) hi⟩
def curS (s : ByteArray) (pos : Nat) : Option Nat → List UInt8
  | none => []
  | some a => ((us s).take pos).drop a
open Go.Lib in
theorem spans_words (s : ByteArray) (hall : ∀ (i : Nat) (h : i < s.size), (s[i]'h).toNat < 128) : ∀ (f pos : Nat) (st : Option Nat) (acc : List (Nat × Nat)), s.size ≤ pos + f → pos ≤ s.size → (∀ a, st = some a → a < pos) →
    (closeSpans s (spansFromP rblank s f pos st acc)).map (fun x => us (s.extract x.1 x.2)) = acc.map (fun x => us (s.extract x.1 x.2)) ++ wordsGo (curS s pos st) ((us s).drop pos)
  | f, pos, st, acc, hf, hps, ha => by
    have hend : pos = s.size → (closeSpans s (acc, st)).map (fun x => us (s.extract x.1 x.2)) = acc.map (fun x => us (s.extract x.1 x.2)) ++ wordsGo (curS s pos st) ((us s).drop pos) := by
      intro e
      rw [drop_us_end s pos (by omega), wordsGo.eq_def]
      unfold closeSpans curS
      cases st with
      | none => simp
      | some a =>
        have h1 := ha a rfl
        dsimp only
        rw [List.map_append, if_neg (by
          intro h
          have := congrArg List.length h
          rw [List.length_drop, List.length_take, length_us, List.length_nil] at this
          omega), List.map_cons, List.map_nil, us_extract, e, List.drop_take]
    match f with
    | 0 =>
      have : spansFromP rblank s 0 pos st acc = (acc, st) := rfl
      rw [this]
      exact hend (by omega)
    | f + 1 =>
      by_cases hp : pos < s.size
      · have hd := decode_ascii s pos hp (hall pos hp)
        unfold spansFromP
        rw [if_pos hp, hd]
        dsimp only
        rw [drop_us s pos hp]
        have hbl : rblank (s[pos]'hp).toNat = blank (s[pos]'hp) := by
          have h := all_bytes (fun c => rblank c.toNat = blank c) (by decide +kernel) (s[pos]'hp)
          exact h
        rw [hbl]
        cases hb : blank (s[pos]'hp)
        · rw [if_neg (by decide)]
          have htk : curS s (pos + 1) (some (st.getD pos)) = curS s pos st ++ [s[pos]'hp] := by
            unfold curS
            cases st with
            | none =>
              show ((us s).take (pos + 1)).drop pos = [] ++ [_]
              rw [take_us s pos hp, List.drop_append, List.drop_eq_nil_iff.2 (by rw [List.length_take]; omega), List.length_take, length_us, Nat.min_eq_left (by omega), Nat.sub_self]; rfl
            | some a =>
              have h1 := ha a rfl
              show ((us s).take (pos + 1)).drop a = ((us s).take pos).drop a ++ [_]
              rw [take_us s pos hp, List.drop_append, List.length_take, length_us, Nat.min_eq_left (by omega), show a - pos = 0 by omega]; rfl
          have hw : wordsGo (curS s pos st) (s[pos]'hp :: (us s).drop (pos + 1)) = wordsGo (curS s (pos + 1) (some (st.getD pos))) ((us s).drop (pos + 1)) := by
            rw [wordsGo, if_neg (by rw [hb]; decide), htk]
          rw [hw]
          cases st with
          | none => exact spans_words s hall f (pos + 1) (some pos) acc (by omega) (by omega) (fun a h => by injection h with h; omega)
          | some a => exact spans_words s hall f (pos + 1) (some a) acc (by omega) (by omega) (fun b h => by injection h with h; have := ha a rfl; omega)
        · rw [if_pos rfl]
          cases st with
          | none =>
            have hw : wordsGo (curS s pos none) (s[pos]'hp :: (us s).drop (pos + 1)) = wordsGo (curS s (pos + 1) none) ((us s).drop (pos + 1)) := by
              rw [wordsGo, if_pos hb]; rfl
            rw [hw]
            exact spans_words s hall f (pos + 1) none acc (by omega) (by omega) (fun a h => by cases h)
          | some a =>
            have h1 := ha a rfl
            have hne : curS s pos (some a) ≠ [] := by
              intro h
              have := congrArg List.length h
              unfold curS at this
              rw [List.length_drop, List.length_take, length_us, List.length_nil] at this
              omega
            have hw : wordsGo (curS s pos (some a)) (s[pos]'hp :: (us s).drop (pos + 1)) = curS s pos (some a) :: wordsGo (curS s (pos + 1) none) ((us s).drop (pos + 1)) := by
              rw [wordsGo, if_pos hb, if_neg hne]; rfl
            rw [hw]
            have := spans_words s hall f (pos + 1) none (acc ++ [(a, pos)]) (by omega) (by omega) (fun a h => by cases h)
            dsimp only
            rw [this, List.map_append, List.map_cons, List.map_nil, us_extract]
            simp [curS, List.drop_take]
      · have : spansFromP rblank s (f + 1) pos st acc = (acc, st) := spansFromP_end _ _ _ _ _ _ hp
        rw [this]
        exact hend (by omega)

/-- the words as strings.FieldsFunc cuts them -/
def wrdS (T : ByteArray) : List (List UInt8) := (Go.Lib.goFieldsP rblank T).map us
theorem wrd_spans (T : ByteArray) : wrdS T = (Go.Lib.spansOfP rblank T).map (fun x => us (T.extract x.1 x.2)) := by
  unfold wrdS Go.Lib.goFieldsP
  rw [List.map_map]; rfl
theorem dispb_ascii (c : UInt8) (h : dispb c = true) : c.toNat < 128 := by
  have := all_bytes (fun c => dispb c = true → c.toNat < 128) (by decide +kernel) c
  exact this h
theorem wrd_words (T : ByteArray) (h : (us T).all dispb = true) : wrdS T = wordsGo [] (us T) := by
  rw [wrd_spans]
  have h1 : ∀ (i : Nat) (hi : i < T.size), (T[i]'hi).toNat < 128 := fun i hi => dispb_ascii _ (List.all_eq_true.1 h _ (List.mem_of_getElem? (get_us T i hi)))
  have := spans_words T h1 T.size 0 none [] (by omega) (Nat.zero_le _) (fun a h => by cases h)
  simpa [Go.Lib.spansOfP, curS] using this
theorem words_noblank : ∀ (l cur : List UInt8), (∀ c ∈ cur, blank c = false) → ∀ w ∈ wordsGo cur l, ∀ c ∈ w, blank c = false
  | [], cur, hc => by
    intro w hw
    rw [wordsGo] at hw
    split at hw
    · cases hw
    · rw [List.mem_singleton] at hw; subst hw; exact hc
  | c :: r, cur, hc => by
    intro w hw
    rw [wordsGo] at hw
    have h0 : ∀ c ∈ ([] : List UInt8), blank c = false := fun c hc => by cases hc
    split at hw
    · split at hw
      · exact words_noblank r [] h0 w hw
      · rcases List.mem_cons.1 hw with rfl | hw
        · exact hc
        · exact words_noblank r [] h0 w hw
    · rename_i hb
      refine words_noblank r (cur ++ [c]) (fun d hd => ?_) w hw
      rcases List.mem_append.1 hd with hd | hd
      · exact hc d hd
      · rw [List.mem_singleton] at hd; subst hd; simpa using hb
theorem disp_quote (l : List UInt8) (h : opens 34 l = true) : optB (dispT l) = ((unquote l).1, (unquote l).2 == 0) := by
  unfold dispT
  rw [if_pos h]
  by_cases hu : (unquote l).2 = 0
  · rw [if_pos hu, hu]; rfl
  · rw [if_neg hu]
    have h1 : (unquote l).1 = [] := by
      unfold unquote at hu ⊢
      split
      · rfl
      · rename_i h2
        rw [if_neg h2] at hu
        cases hq : unqGo ((l.drop 1).take (l.length - 2)) with
        | none => rfl
        | some r => rw [hq] at hu; exact absurd rfl hu
    rw [h1]
    have : ((unquote l).2 == 0) = false := by simpa using hu
    rw [this]; rfl
theorem wrd_mem (T : ByteArray) (x : List UInt8) (hx : x ∈ wrdS T) (c : UInt8) (hc : c ∈ x) : c ∈ us T := by
  rw [wrd_spans] at hx
  obtain ⟨y, _, rfl⟩ := List.mem_map.1 hx
  rw [us_extract] at hc
  exact List.mem_of_mem_drop (List.mem_of_mem_take hc)
theorem disp_good (T : ByteArray) (h : opens 34 (us T) = false) (hw : ∀ x ∈ wrdS T, allc 8 x = true) : optB (dispT (us T)) = (glue [32] (wrdS T), true) := by
  have hall : (us T).all dispb = true := by
    rw [List.all_eq_true]
    intro c hc
    obtain ⟨i, hi, e⟩ := List.getElem_of_mem hc
    have hi' : i < T.size := by rw [length_us] at hi; exact hi
    have ec : T[i]'hi' = c := by
      have := get_us T i hi'
      rw [List.getElem?_eq_getElem hi, e] at this
      injection this with this; first | done | exact this.symm
    unfold dispb
    cases hb : blank c
    · obtain ⟨y, hy, h1, h2⟩ := spans_cover T T.size 0 none [] i (by omega) (fun a h => by cases h) (Nat.zero_le _) hi' (by rw [ec]; exact hb)
      have hx := hw (us (T.extract y.1 y.2)) (by rw [wrd_spans]; exact List.mem_map.2 ⟨y, hy, rfl⟩)
      unfold allc at hx
      rw [List.all_eq_true] at hx
      have := hx c (by
        rw [us_extract, List.mem_iff_getElem?]
        refine ⟨i - y.1, ?_⟩
        rw [List.getElem?_take_of_lt (by omega), List.getElem?_drop, show y.1 + (i - y.1) = i by omega, get_us T i hi', ec])
      rw [this]; first | done | rfl
    · rfl
  unfold dispT
  rw [h, if_neg (by decide), if_pos hall, wrd_words T hall]
  first | done | rfl
theorem disp_bad (T : ByteArray) (h : opens 34 (us T) = false) (x : List UInt8) (hx : x ∈ wrdS T) (c : UInt8) (hc : c ∈ x) (hb : testc 8 c = false) : optB (dispT (us T)) = ([], false) ∧ T.size ≠ 0 := by
  have hm := wrd_mem T x hx c hc
  refine ⟨?_, fun h0 => ?_⟩
  · unfold dispT
    rw [h, if_neg (by decide), if_neg]
    · rfl
    · intro hall
      rw [wrd_words T hall] at hx
      have h1 := words_noblank (us T) [] (fun c hc => by cases hc) x hx c hc
      have h2 := List.all_eq_true.1 hall c hm
      unfold dispb at h2
      rw [h1, hb] at h2
      cases h2
  · have : us T = [] := List.eq_nil_of_length_eq_zero (by rw [length_us]; exact h0)
    rw [this] at hm; cases hm
theorem clos_c (r : Nat) (hr : r ≤ 1114111) (w : World) : Calls Tryz.prog 61 #[.int .i32 r] w fun e w' => e = .returned (.bool (rblank r)) ∧ w' = w := by
  by_cases h1 : r = 32
  · subst h1
    go_enter Tryz.func61, Tryz.ntmps61
    go_wp2
    go_ret
    exact ⟨rfl, rfl⟩
  by_cases h2 : r = 9
  · subst h2
    go_enter Tryz.func61, Tryz.ntmps61
    go_wp2
    go_ret
    exact ⟨rfl, rfl⟩
  have HE := Lib.hid (show rblank r = false by unfold rblank; simp [h1, h2])
  have n1 : (((r : Int)) == 32) = false := by rw [beq_eq_false_iff_ne]; omega
  have n2 : (((r : Int)) == 9) = false := by rw [beq_eq_false_iff_ne]; omega
  clear h1 h2
  go_enter Tryz.func61, Tryz.ntmps61
  go_wp2
  go_ret
  exact ⟨ret_bool HE.out.symm, rfl⟩

theorem sumJ_ge : ∀ (L : List (List UInt8)) (x : List UInt8), x ∈ L → x.length ≤ sumJ L
  | y :: r, x, h => by
    rw [sumJ]
    rcases List.mem_cons.1 h with rfl | h
    · omega
    · have := sumJ_ge r x h; omega
theorem words_sum : ∀ (l cur : List UInt8), sumJ (wordsGo cur l) + (wordsGo cur l).length ≤ 2 * (cur.length + l.length)
  | [], cur => by
    rw [wordsGo]
    split
    · simp [sumJ]
    · rename_i h
      have : 0 < cur.length := List.length_pos_iff.2 h
      simp [sumJ] <;> omega
  | c :: r, cur => by
    rw [wordsGo]
    split
    · split
      · have := words_sum r []
        simp at this ⊢; omega
      · rename_i h
        have h1 : 0 < cur.length := List.length_pos_iff.2 h
        have := words_sum r []
        rw [sumJ, List.length_cons]
        simp at this ⊢; omega
    · have := words_sum r (cur ++ [c])
      rw [List.length_append] at this
      simp at this ⊢; omega
theorem wrd_good (T : ByteArray) (hw : ∀ x ∈ wrdS T, allc 8 x = true) (h : opens 34 (us T) = false) : wrdS T = wordsGo [] (us T) := by
  have hall : (us T).all dispb = true := by
    have h1 := disp_good T h hw
    unfold dispT at h1
    rw [h, if_neg (by decide)] at h1
    cases ha : (us T).all dispb
    · rw [ha, if_neg (by decide)] at h1
      exact Bool.noConfusion (show false = true from congrArg Prod.snd h1)
    · rfl
  exact wrd_words T hall
theorem fieldsF_c (T : ByteArray) (hT : T.size ≤ 4294967280) (w : World) :
    Calls Tryz.prog 60 #[.string T, .func (.func 61) #[] #[]] w fun e w' => ∃ A, e = .returned (.slice (some ⟨A, 0, none⟩) (wrdS T).length (wrdS T).length) ∧ RStrs w' (.slice (some ⟨A, 0, none⟩) (wrdS T).length (wrdS T).length) (wrdS T) ∧ Below w.heap.size w w' := by
  refine (Tryz.strings_FieldsFunc_runes 61 #[] (fun args w => by kernel_rfl) rblank T w (by omega) (fun W x hx _ => (clos_c x hx W).mono fun e w' ⟨a, b⟩ => ⟨a, 0, b⟩)).mono ?_
  rintro e w' ⟨A, rfl, _, hown, hB⟩
  have hl : (Go.Lib.goFieldsP rblank T).length = (wrdS T).length := by unfold wrdS; rw [List.length_map]
  have hm : (Go.Lib.goFieldsP rblank T).map Value.string = (wrdS T).map sv := by
    unfold wrdS
    rw [List.map_map]
    refine List.map_congr_left fun x _ => ?_
    simp [sv]
  rw [hl, hm] at hown
  exact ⟨A, by rw [hl], RRow.of_own hown, hB⟩
set_option maxRecDepth 100000 in
set_option maxHeartbeats 6400000 in
theorem display_c (s : ByteArray) (hs : s.size ≤ 4294967280) (w : World) :
    Calls Tryz.prog 27 #[.string s] w fun e w' => e = .returned (.tuple #[.string (bs (optB (displayS (us s))).1), .bool (optB (displayS (us s))).2]) ∧ Below w.heap.size w w' := by
  have HTR := Lib.hid (fun wx => trim_c s (by omega) wx)
  have htl := trim_le (us s)
  rw [length_us] at htl
  have hdd : displayS (us s) = dispT (trim (us s)) := rfl
  obtain ⟨T, hT⟩ : ∃ T, T = bs (trim (us s)) := ⟨_, rfl⟩
  have uT : trim (us s) = us T := by rw [hT, us_bs]
  have sT : T.size ≤ 4294967280 := by rw [hT, size_bs]; omega
  rw [← hT] at HTR
  rw [hdd, uT]
  clear hT uT hdd htl hs
  have HP := Lib.hid (fun wx => prefix_c T 34 wx)
  have hq := disp_quote (us T)
  have hg := disp_good T
  have hbd := disp_bad T
  have hwg := wrd_good T
  have HFF := Lib.hid (fun wx => fieldsF_c T sT wx)
  have hws := words_sum (us T) []
  rw [length_us] at hws
  have hmx : ∀ x ∈ wrdS T, x.length ≤ 4294967280 := by
    intro x hx
    rw [wrd_spans] at hx
    obtain ⟨y, _, rfl⟩ := List.mem_map.1 hx
    rw [us_extract, List.length_take, List.length_drop, length_us]; omega
  obtain ⟨R, hR⟩ : ∃ R, R = optB (dispT (us T)) := ⟨_, rfl⟩
  rw [← hR] at hq hg hbd ⊢
  clear hR
  obtain ⟨o, ho⟩ : ∃ o, o = opens 34 (us T) := ⟨_, rfl⟩
  rw [← ho] at HP hq hg hbd hwg
  clear ho
  cases o
  case true =>
    have HR := Lib.hid (hq rfl)
    have HU := Lib.hid (fun wx => unquote_c T (by omega) wx)
    clear hq hg hbd hwg HFF hws hmx
    obtain ⟨q, hq⟩ : ∃ q, q = unquote (us T) := ⟨_, rfl⟩
    rw [← hq] at HU HR
    clear hq
    go_enter Tryz.func27, Tryz.ntmps27
    go_wp2
    go_step3
    go_wp2_with (first | (go_at_call 22; refine (HTR.out _).mono ?_; rintro e wx ⟨rfl, rfl⟩) | (go_at_call 58; refine (HP.out _).mono ?_; rintro e wx ⟨rfl, rfl⟩) | (go_at_call 59; refine (HU.out _).mono ?_; rintro e w1 ⟨rfl, hC1⟩))
    try rw [Exit.noGoto_ret]
    go_ret2
    exact ⟨ret_sb (by rw [HR.out]) (by rw [HR.out]), hC1⟩
  case false =>
    have HG := Lib.hid (fun h => hg rfl h)
    have HBD := Lib.hid (fun x hx c hc hb => hbd rfl x hx c hc hb)
    have HSM := Lib.hid (fun h => (show sumJ (wrdS T) + (wrdS T).length ≤ 1099511627776 by rw [hwg h rfl]; simp at hws; omega))
    have HMX := Lib.hid hmx
    clear hq hg hbd hwg hws hmx
    obtain ⟨WS, hWS⟩ : ∃ x, x = wrdS T := ⟨_, rfl⟩
    rw [← hWS] at HFF HG HBD HSM HMX
    clear hWS
    go_enter Tryz.func27, Tryz.ntmps27
    go_wp2
    go_step3
    go_wp2_with (first | (go_at_call 22; refine (HTR.out _).mono ?_; rintro e wx ⟨rfl, rfl⟩) | (go_at_call 58; refine (HP.out _).mono ?_; rintro e wx ⟨rfl, rfl⟩) | (go_at_call 60; refine (HFF.out _).mono ?_; rintro e w1 ⟨A, rfl, hV, hB1⟩))
    have HC := Lib.hid (fun (j : Nat) (hj : j < WS.length) => (show w1.cell? ⟨A, j, none⟩ = some (.string (bs WS[j])) from by
      rcases hV.cases with ⟨⟨_, _, e⟩, h⟩ | ⟨b, off, c, e, _, _, _, h⟩
      · rw [h] at hj; cases hj
      · injection e with e; injection e with e; injection e with e1 e2
        have := h j hj
        rw [← e1, ← e2, Nat.zero_add] at this; exact this))
    have HJ := Lib.hid (fun h => join_c (.slice (some ⟨A, 0, none⟩) WS.length WS.length) WS w1 hV (HSM.out h))
    have HJ0 := Lib.hid (join_c (.slice none 0 0) [] w1 (.inl ⟨⟨_, _, rfl⟩, rfl, rfl⟩) (by decide))
    have hnn := fun w a n c n' c' => Go.run_neq_slice_nil_any (P := Tryz.prog) w 58 9 a n c n' c' Tryz.underlying58
    have hWl : WS.length ≤ 9223372036854775807 := by
      rcases hV.form with ⟨_, _, _, h, _⟩
      unfold maxLen at h; omega
    have HB1 := Lib.hid hB1
    clear hV hB1
    go_step3
    go_wp2
    go_loopg [6, 26] WS.length (fun g v i wx => ∃ k : Nat, k + g = WS.length ∧ v = (.slice (some ⟨A, 0, none⟩) WS.length WS.length) ∧ i = .int .i64 k ∧ wx = w1 ∧ Hid (∀ x ∈ WS.take k, allc 8 x = true))
    case atStart => exact ⟨0, by omega, rfl, rfl, rfl, Lib.hid (fun x hx => by simp at hx)⟩
    case round =>
      obtain ⟨k, hkg, rfl, rfl, rfl, HA⟩ := hrel
      by_cases hlt : k < WS.length
      · cases gk with
        | zero => omega
        | succ g1 =>
          have x0 := HC.out k hlt
          have hXl := HMX.out _ (List.getElem_mem hlt)
          have HBk := Lib.hid (fun (c : UInt8) (hc : c ∈ WS[k]) (hb : testc 8 c = false) => HBD.out WS[k] (List.getElem_mem hlt) c hc hb)
          have HNX := Lib.hid (fun (h : allc 8 WS[k] = true) => (show ∀ x ∈ WS.take (k + 1), allc 8 x = true from fun x hx => by
            rw [List.take_succ_eq_append_getElem hlt] at hx
            rcases List.mem_append.1 hx with hx | hx
            · exact HA.out x hx
            · rw [List.mem_singleton.1 hx]; exact h))
          obtain ⟨X, hX⟩ : ∃ X, X = bs WS[k] := ⟨_, rfl⟩
          have hXs : X.size ≤ 4294967280 := by rw [hX, size_bs]; exact hXl
          have uX : WS[k] = us X := by rw [hX, us_bs]
          rw [← hX] at x0
          rw [uX] at HBk HNX
          have k0 : (0 : Int) ≤ (k : Int) := by omega
          have k1 : (k : Int) < (WS.length : Int) := by omega
          clear hX uX hXl
          go_wp2
          go_loopg [6, 32] X.size (fun g v j wx => ∃ m : Nat, m + g = X.size ∧ v = (.slice (some ⟨A, 0, none⟩) WS.length WS.length) ∧ j = .int .i64 m ∧ wx = wr ∧ Hid (((us X).take m).all (testc 8) = true))
          case atStart => exact ⟨0, by omega, rfl, rfl, rfl, Lib.hid rfl⟩
          case round =>
            obtain ⟨m, hmg, rfl, rfl, rfl, HM⟩ := hrel
            by_cases hlt2 : m < X.size
            · cases gk with
              | zero => omega
              | succ g2 =>
                have hst := take_us X m hlt2
                have hmem := List.mem_of_getElem? (get_us X m hlt2)
                cases hb : testc 8 X[m]
                · obtain ⟨hR, hT0⟩ := HBk.out X[m] hmem hb
                  have HR := Lib.hid hR
                  have pE := ne_empty hT0
                  have pF := isEmpty_f hT0
                  have t1 : (bits BinOp.and IntKind.i64 (cls X[m]) 8 == 0) = true := by unfold testc at hb; simpa using hb
                  clear hR hT0 hmem hst hb
                  go_wp2_with (first | (go_at_call 54; refine (class_c _ _).mono ?_; rintro e w' ⟨rfl, rfl⟩) | (go_at_call 62; refine (HJ0.out).mono ?_; rintro e w2 ⟨rfl, hC2⟩))
                  try rw [Exit.noGoto_ret]
                  go_ret2
                  exact ⟨ret_sb (by rw [HR.out]; rfl) (by rw [HR.out]), HB1.out.trans (hC2.mono HB1.out.size)⟩
                · have t1 : (bits BinOp.and IntKind.i64 (cls X[m]) 8 == 0) = false := by unfold testc at hb; simpa using hb
                  have HM2 := Lib.hid (show ((us X).take (m + 1)).all (testc 8) = true by rw [hst, List.all_append, HM.out]; simp [hb])
                  clear hmem hst hb
                  go_wp2_with (go_at_call 54; refine (class_c _ _).mono ?_; rintro e w' ⟨rfl, rfl⟩)
                  go_roundg g2
                  case measure => omega
                  case rel => exact ⟨m + 1, by omega, rfl, by go_num, rfl, HM2⟩
            · have hM := HM.out
              rw [List.take_of_length_le (by rw [length_us]; omega)] at hM
              have HA2 := Lib.hid (HNX.out hM)
              clear hM
              go_wp2
              go_roundg g1
              case measure => omega
              case rel => exact ⟨k + 1, by omega, rfl, by go_num, rfl, HA2⟩
      · have hA := HA.out
        rw [List.take_of_length_le (by omega)] at hA
        have HR := Lib.hid (HG.out hA)
        have HJ1 := Lib.hid (HJ.out hA)
        clear hA
        go_wp2_with (first | (go_at_call 62; refine (HJ1.out).mono ?_; rintro e w2 ⟨rfl, hC2⟩))
        try rw [Exit.noGoto_ret]
        go_ret2
        exact ⟨ret_sb (by rw [HR.out]) (by rw [HR.out]), HB1.out.trans (hC2.mono HB1.out.size)⟩

end Go.Proofs.YtjpmfcipjaeemaaGreatDoor
