/-
  Plain laws of seconds: noughts ahead play no part; what is more than can be is as many as can be.
  head.Seq.
  rosterref08.Seq; the program's and the reference's are one.
-/
import Derived.Test.YteiafgoigfehgaaDoorHed
import Derived.Test.YteiafgoigfehgaaDoorNum
import Derived.Test.YteiafgoigfehgaaDoorUri
namespace Go.Proofs.YteiafgoigfehgaaDoor

section
def tmax : Int := 2147483647
theorem time_val (l : List UInt8) (hl : l ≠ []) (h : l.all isDig = true) : timeS l = if valF l 0 ≤ 2147483647 then (valF l 0, 0) else (2147483647, 0) := by
  unfold timeS
  rw [trim_self l (dig_ends l h).1 (dig_ends l h).2, number_val _ (by decide) l hl h]
  by_cases hv : valF l 0 ≤ 2147483647
  · rw [if_pos hv, if_neg (show ¬ ((0 : Int) = 9) by decide), if_pos hv]
  · rw [if_neg hv, if_pos rfl, if_neg hv]
theorem time_one (n : Int) (h0 : 0 ≤ n) (h1 : n ≤ 4294967295) (k : Nat) :
    timeS (32 :: (List.replicate k 48 ++ digits n ++ [9])) = (min n 2147483647, 0) := by
  have hd : (List.replicate k 48 ++ digits n).all isDig = true := by
    rw [List.all_append, digits_all]
    have : (List.replicate k (48 : UInt8)).all isDig = true := by rw [List.all_eq_true]; intro c hc; rw [List.eq_of_mem_replicate hc]; rfl
    rw [this]; rfl
  have hne : List.replicate k 48 ++ digits n ≠ [] := by simp [digits_ne n h0]
  have ht : trim (32 :: (List.replicate k 48 ++ digits n ++ [9])) = trim (List.replicate k 48 ++ digits n) := by
    rw [trim_self _ (dig_ends _ hd).1 (dig_ends _ hd).2]
    exact trim_mid [32] _ [9] (by decide +kernel) (by decide +kernel) (dig_ends _ hd).1 (dig_ends _ hd).2 hne
  have : timeS (32 :: (List.replicate k 48 ++ digits n ++ [9])) = timeS (List.replicate k 48 ++ digits n) := by unfold timeS; rw [ht]
  rw [this, time_val _ hne hd, valF_append, valF_zeros, valF_digits n h0 (by omega)]
  by_cases h : n ≤ 2147483647
  · rw [if_pos h, Int.min_eq_left h]
  · rw [if_neg h, Int.min_eq_right (by omega)]
theorem time_two (n : Int) (h0 : 0 ≤ n) (h1 : n ≤ 4294967295) (more : List UInt8) (hm : more.all isDig = true) :
    (timeS (digits n ++ more)).2 = 0 ∧ min n 2147483647 ≤ (timeS (digits n ++ more)).1 ∧ (timeS (digits n ++ more)).1 ≤ 2147483647 := by
  rw [time_val _ (by simp [digits_ne n h0]) (by rw [List.all_append, digits_all, hm]; rfl), valF_append, valF_digits n h0 (by omega)]
  have := valF_ge more n hm h0
  split <;> refine ⟨rfl, ?_, ?_⟩ <;> simp only <;> omega
end

section
open Go.RowKit

/-- a sequence number with a method -/
def seqP (l : List UInt8) : Int × List UInt8 × Int :=
  if (cutb 32 (swapb 9 32 (trim l))).2.2 = false ∨ (number (cutb 32 (swapb 9 32 (trim l))).1 2147483647).2 ≠ 0 ∨ token (trim (cutb 32 (swapb 9 32 (trim l))).2.1) = false then (0, [], 80)
  else ((number (cutb 32 (swapb 9 32 (trim l))).1 2147483647).1, trim (cutb 32 (swapb 9 32 (trim l))).2.1, 0)
def SeqPost (p : Int × List UInt8 × Int) (w : World) (e : Ending) (w' : World) : Prop :=
  e = .returned (.tuple #[.int .i64 p.1, .string (bs p.2.1), .int .i64 p.2.2]) ∧ Below w.heap.size w w'

set_option maxHeartbeats 1600000 in
theorem seq_c (s : ByteArray) (hs : s.size ≤ 4294967280) (w : World) (hm : Ml w) :
    Calls Tryd.prog 22 #[.string s] w (SeqPost (seqP (us s)) w) := by
  have HM := Lib.hid hm
  clear hm
  have hl1 := trim_le (us s)
  rw [length_us] at hl1
  have HT := Lib.hid (fun wx => trim_c s (by omega) wx)
  have HR := Lib.hid (fun wx (hx : Ml wx) => replaceAll_c (bs (trim (us s))) (by rw [size_bs]; omega) 9 32 (by decide) wx hx)
  rw [us_bs] at HR
  have hl2 := swapb_len 9 32 (trim (us s))
  have HC := Lib.hid (fun wx (hx : Ml wx) => cut_c (bs (swapb 9 32 (trim (us s)))) (by rw [size_bs]; omega) 32 wx hx)
  rw [us_bs] at HC
  have hl3 := cutb_le 32 (swapb 9 32 (trim (us s)))
  have HP := Lib.hid (show seqP (us s) = if (cutb 32 (swapb 9 32 (trim (us s)))).2.2 = false ∨ (number (cutb 32 (swapb 9 32 (trim (us s)))).1 2147483647).2 ≠ 0 ∨ token (trim (cutb 32 (swapb 9 32 (trim (us s)))).2.1) = false then (0, [], 80)
    else ((number (cutb 32 (swapb 9 32 (trim (us s)))).1 2147483647).1, trim (cutb 32 (swapb 9 32 (trim (us s)))).2.1, 0) from rfl)
  obtain ⟨sw, hsw⟩ : ∃ sw, sw = swapb 9 32 (trim (us s)) := ⟨_, rfl⟩
  rw [← hsw] at HR HC HP hl2 hl3
  obtain ⟨tr, htr⟩ : ∃ tr, tr = trim (us s) := ⟨_, rfl⟩
  rw [← htr] at HT HR hl1 hl2
  clear hsw htr
  obtain ⟨c, hc⟩ : ∃ c, c = cutb 32 sw := ⟨_, rfl⟩
  rw [← hc] at HC HP hl3
  clear hc
  obtain ⟨a, b, ok⟩ := c
  dsimp only at HC HP hl3
  have HN := Lib.hid (fun wx => number_c (bs a) (by rw [size_bs]; omega) 2147483647 (by decide) (by decide) wx)
  have HT2 := Lib.hid (fun wx => trim_c (bs b) (by rw [size_bs]; omega) wx)
  have hl4 := trim_le b
  have HK := Lib.hid (fun wx => token_c (bs (trim b)) (by rw [size_bs]; omega) wx)
  rw [us_bs] at HN HT2 HK
  clear hl1 hl2 hl3 hl4
  obtain ⟨n, hn⟩ : ∃ n, n = number a 2147483647 := ⟨_, rfl⟩
  rw [← hn] at HN HP
  obtain ⟨m, hm⟩ : ∃ m, m = trim b := ⟨_, rfl⟩
  rw [← hm] at HT2 HK HP
  clear hn hm
  obtain ⟨n, ne⟩ := n
  dsimp only at HN HP
  have hcase : (ok = false ∧ seqP (us s) = (0, [], 80)) ∨ (ok = true ∧ (ne != 0) = true ∧ seqP (us s) = (0, [], 80)) ∨ (ok = true ∧ (ne != 0) = false ∧ token m = false ∧ seqP (us s) = (0, [], 80)) ∨ (ok = true ∧ (ne != 0) = false ∧ token m = true ∧ seqP (us s) = (n, m, 0)) := by
    rw [HP.out]
    cases ok
    · exact .inl ⟨rfl, if_pos (.inl rfl)⟩
    refine .inr ?_
    cases hq : (ne != 0)
    case true => exact .inl ⟨rfl, rfl, if_pos (.inr (.inl (by simpa using hq)))⟩
    refine .inr ?_
    cases ht : token m
    · exact .inl ⟨rfl, rfl, rfl, if_pos (.inr (.inr rfl))⟩
    · refine .inr ⟨rfl, rfl, rfl, if_neg ?_⟩
      rintro (h | h | h)
      · cases h
      · exact h (by simpa using hq)
      · cases h
  clear HP
  have H1 := Lib.hid HM.out
  rcases hcase with ⟨rfl, hE⟩ | ⟨rfl, hne, hE⟩ | ⟨rfl, hne, htk, hE⟩ | ⟨rfl, hne, htk, hE⟩
  case inl | inr.inl =>
    all_goals
      have HE := Lib.hid hE
      clear hE
      go_enter Tryd.func22, Tryd.ntmps22
      go_wp2_with (first | (go_at_call 37; (first | ((with_reducible refine (HT.out _).mono ?_); rintro e wx ⟨rfl, rfl⟩) | ((with_reducible refine (HT2.out _).mono ?_); rintro e wx ⟨rfl, rfl⟩))) | (go_at_call 51; refine (HR.out _ HM.out).mono ?_; rintro e w1 ⟨rfl, hC⟩) | (go_at_call 39; refine (HC.out _ (HM.out.below hC)).mono ?_; rintro e w2 ⟨rfl, hD⟩; have hB2 := hC.trans (hD.below (B := w.heap.size))) | (go_at_call 46; refine (HN.out _).mono ?_; rintro e wx ⟨rfl, rfl⟩) | (go_at_call 40; refine (HK.out _).mono ?_; rintro e wx ⟨rfl, rfl⟩))
      go_ret3
      exact ⟨by rw [HE.out]; rfl, hB2⟩
  all_goals
    have HE := Lib.hid hE
    rw [htk] at HK
    clear hE htk
    go_enter Tryd.func22, Tryd.ntmps22
    go_wp2_with (first | (go_at_call 37; (first | ((with_reducible refine (HT.out _).mono ?_); rintro e wx ⟨rfl, rfl⟩) | ((with_reducible refine (HT2.out _).mono ?_); rintro e wx ⟨rfl, rfl⟩))) | (go_at_call 51; refine (HR.out _ HM.out).mono ?_; rintro e w1 ⟨rfl, hC⟩) | (go_at_call 39; refine (HC.out _ (HM.out.below hC)).mono ?_; rintro e w2 ⟨rfl, hD⟩; have hB2 := hC.trans (hD.below (B := w.heap.size))) | (go_at_call 46; refine (HN.out _).mono ?_; rintro e wx ⟨rfl, rfl⟩) | (go_at_call 40; refine (HK.out _).mono ?_; rintro e wx ⟨rfl, rfl⟩))
    go_ret3
    exact ⟨by rw [HE.out]; rfl, hB2⟩
end

section
open Go.RowKit

def nb (c : UInt8) : Bool := !blank c
/-- the document's sequence number with a method -/
def seqR (l : List UInt8) : Int × List UInt8 × Int :=
  if (number ((trim l).takeWhile nb) 2147483647).2 ≠ 0 ∨ token (trim ((trim l).dropWhile nb)) = false then (0, [], 80)
  else ((number ((trim l).takeWhile nb) 2147483647).1, trim ((trim l).dropWhile nb), 0)
def swb (x : UInt8) : UInt8 := if x.toNat = 9 then 32 else x
theorem swapb_map (l : List UInt8) : swapb 9 32 l = l.map swb := rfl
theorem swb_facts (c : UInt8) : blank (swb c) = blank c ∧ testc 8 (swb c) = testc 8 c ∧ (blank c = true ↔ (swb c).toNat = 32) ∧ (blank c = false → swb c = c) ∧ (testc 8 c = true → swb c = c ∧ blank c = false) :=
  all_bytes (fun c => blank (swb c) = blank c ∧ testc 8 (swb c) = testc 8 c ∧ (blank c = true ↔ (swb c).toNat = 32) ∧ (blank c = false → swb c = c) ∧ (testc 8 c = true → swb c = c ∧ blank c = false)) (by decide +kernel) c
theorem drop_map (l : List UInt8) : (l.map swb).dropWhile blank = (l.dropWhile blank).map swb := by
  induction l with
  | nil => rfl
  | cons c r ih =>
    rw [List.map_cons]
    cases h : blank c
    · rw [List.dropWhile_cons_of_neg (by rw [(swb_facts c).1, h]; decide), List.dropWhile_cons_of_neg (by rw [h]; decide)]; rfl
    · rw [List.dropWhile_cons_of_pos (by rw [(swb_facts c).1, h]), List.dropWhile_cons_of_pos h, ih]
theorem trim_map (l : List UInt8) : trim (l.map swb) = (trim l).map swb := by
  unfold trim trimR trimL
  rw [drop_map, ← List.map_reverse, drop_map, ← List.map_reverse]
theorem token_map (l : List UInt8) : token (l.map swb) = token l := by
  unfold token allc
  rw [List.length_map, List.all_map]
  congr 2
  exact funext fun c => (swb_facts c).2.1
theorem token_same (l : List UInt8) (h : token l = true) : l.map swb = l := by
  unfold token allc at h
  simp only [Bool.and_eq_true, List.all_eq_true] at h
  have : l.map swb = l.map id := List.map_congr_left fun c hc => ((swb_facts c).2.2.2.2 (h.2 c hc)).1
  rw [this, List.map_id]
theorem cut_blank : ∀ l : List UInt8, cutb 32 (l.map swb) = (l.takeWhile nb, ((l.dropWhile nb).drop 1).map swb, !(l.dropWhile nb).isEmpty)
  | [] => rfl
  | c :: r => by
    rw [List.map_cons, cutb]
    cases h : blank c
    · have hn : ¬ (swb c).toNat = (32 : UInt8).toNat := fun e => by
        have := (swb_facts c).2.2.1.2 e; rw [h] at this; cases this
      rw [if_neg hn, cut_blank r, List.takeWhile_cons_of_pos (by unfold nb; rw [h]; rfl), List.dropWhile_cons_of_pos (by unfold nb; rw [h]; rfl), (swb_facts c).2.2.2.1 h]
    · rw [if_pos (show (swb c).toNat = (32 : UInt8).toNat from (swb_facts c).2.2.1.1 h), List.takeWhile_cons_of_neg (by unfold nb; rw [h]; decide), List.dropWhile_cons_of_neg (by unfold nb; rw [h]; decide)]; rfl
theorem trim_drop1 (l : List UInt8) (h : ∀ c, l.head? = some c → blank c = true) : trim (l.drop 1) = trim l := by
  cases l with
  | nil => rfl
  | cons c r =>
    have hc := h c rfl
    unfold trim trimL
    rw [List.dropWhile_cons_of_pos hc]; rfl
theorem dw_head (l : List UInt8) : ∀ c, (l.dropWhile nb).head? = some c → blank c = true := by
  induction l with
  | nil => intro c h; cases h
  | cons x r ih =>
    intro c h
    cases hx : blank x
    · rw [List.dropWhile_cons_of_pos (by unfold nb; rw [hx]; rfl)] at h; exact ih c h
    · rw [List.dropWhile_cons_of_neg (by unfold nb; rw [hx]; decide)] at h
      injection h with h; rw [← h]; exact hx
theorem seq_same (l : List UInt8) : seqP l = seqR l := by
  unfold seqP seqR
  rw [swapb_map, cut_blank]
  dsimp only
  rw [trim_map, trim_drop1 _ (dw_head _), token_map]
  obtain ⟨d, hd⟩ : ∃ d, d = (trim l).dropWhile nb := ⟨_, rfl⟩
  rw [← hd]
  by_cases he : d = []
  · subst he
    have ht : token (trim []) = false := by decide
    rw [if_pos (.inl (by rfl)), if_pos (.inr ht)]
  · have h1 : (!d.isEmpty) = true := by cases d with | nil => exact absurd rfl he | cons => rfl
    rw [h1]
    by_cases hc : (number ((trim l).takeWhile nb) 2147483647).2 ≠ 0 ∨ token (trim d) = false
    · rw [if_pos (.inr hc), if_pos hc]
    · rw [if_neg (fun h => by rcases h with h | h; cases h; exact hc h), if_neg hc]
      have ht : token (trim d) = true := by
        cases h : token (trim d)
        · exact absurd (.inr h) hc
        · rfl
      rw [token_same _ ht]

theorem tw_at (s : ByteArray) (k : Nat) (hp : ((us s).take k).all nb = true) (he : ∀ h : k < s.size, blank s[k] = true) :
    (us s).takeWhile nb = us (s.extract 0 k) ∧ (us s).dropWhile nb = us (s.extract k s.size) := by
  have hsplit : us s = (us s).take k ++ (us s).drop k := (List.take_append_drop k _).symm
  have hd : ∀ x, (((us s).drop k).head? = some x) → nb x = false := by
    intro x hx
    rcases Nat.lt_or_ge k s.size with h | h
    · rw [drop_us s k h] at hx
      injection hx with hx
      unfold nb; rw [← hx, he h]; rfl
    · rw [drop_us_end s k h] at hx; cases hx
  have hall : ∀ c ∈ (us s).take k, nb c = true := List.all_eq_true.1 hp
  have e1 : us (s.extract 0 k) = (us s).take k := by rw [us_extract]; simp
  have e2 : us (s.extract k s.size) = (us s).drop k := us_tail s k
  rw [e1, e2]
  constructor
  · rw [hsplit, List.takeWhile_append_of_pos hall]
    have : ((us s).drop k).takeWhile nb = [] := by
      cases hq : (us s).drop k with
      | nil => rfl
      | cons x r => rw [List.takeWhile_cons_of_neg (by rw [hd x (by rw [hq]; rfl)]; decide)]
    rw [this]; simp
  · rw [hsplit, List.dropWhile_append_of_pos hall]
    rw [List.take_append_drop]
    exact dropWhile_none nb _ hd

set_option maxHeartbeats 3200000 in
theorem seqR_c (s : ByteArray) (hs : s.size ≤ 4294967280) (w : World) :
    Calls Tryd.prog 23 #[.string s] w (SeqPost (seqR (us s)) w) := by
  have hl1 := trim_le (us s)
  rw [length_us] at hl1
  have HT := Lib.hid (fun wx => trimR_c s (by omega) wx)
  have HP := Lib.hid (show seqR (us s) = if (number ((trim (us s)).takeWhile nb) 2147483647).2 ≠ 0 ∨ token (trim ((trim (us s)).dropWhile nb)) = false then (0, [], 80)
    else ((number ((trim (us s)).takeWhile nb) 2147483647).1, trim ((trim (us s)).dropWhile nb), 0) from rfl)
  obtain ⟨T, hT⟩ : ∃ T, T = bs (trim (us s)) := ⟨_, rfl⟩
  have hTs : T.size ≤ 4294967280 := by rw [hT, size_bs]; omega
  have hTu : trim (us s) = us T := by rw [hT, us_bs]
  rw [← hT] at HT
  rw [hTu] at HP
  clear hT hTu hl1
  go_enter Tryd.func23, Tryd.ntmps23
  go_wp2_with (go_at_call 42; refine (HT.out _).mono ?_; rintro e wx ⟨rfl, rfl⟩)
  go_loop [5] (fun i => ∃ k : Nat, k ≤ T.size ∧ i = .int .i64 k ∧ ((us T).take k).all nb = true) (fun i => T.size - (intOf i).toNat)
  case atStart => exact ⟨0, Nat.zero_le _, rfl, rfl⟩
  case round =>
    obtain ⟨k, hk, rfl, hp⟩ := hrel
    have HA := Lib.hid hp
    clear hp
    by_cases hgo : ∃ h : k < T.size, blank T[k] = false
    · obtain ⟨hlt, hbl⟩ := hgo
      have t1 : (cls T[k] != 32) = true := by unfold blank at hbl; simpa [bne] using hbl
      have HN := Lib.hid (show ((us T).take (k + 1)).all nb = true by rw [take_us T k hlt, List.all_append, HA.out]; simp [nb, hbl])
      clear hbl
      go_wp2_with (go_at_call 52; refine (classR_c _ _).mono ?_; rintro e wx ⟨rfl, rfl⟩)
      go_round
      case rel => exact ⟨k + 1, by omega, by go_num, HN.out⟩
      case measure => simp [intOf]; omega
    · have he : ∀ h : k < T.size, blank T[k] = true := fun h => by
        cases hb : blank T[k]
        · exact absurd ⟨h, hb⟩ hgo
        · rfl
      obtain ⟨e1, e2⟩ := tw_at T k HA.out he
      rw [e1, e2] at HP
      have hx1 : (T.extract 0 k).size = k := by rw [ByteArray.size_extract]; omega
      have hx2 : (T.extract k T.size).size ≤ T.size := by rw [ByteArray.size_extract]; omega
      have HNm := Lib.hid (fun wx => numberR_c (T.extract 0 k) (by omega) 2147483647 (by decide) (by decide) wx)
      have HT2 := Lib.hid (fun wx => trimR_c (T.extract k T.size) (by omega) wx)
      have hl4 := trim_le (us (T.extract k T.size))
      rw [length_us] at hl4
      have HK := Lib.hid (fun wx => tokenR_c (bs (trim (us (T.extract k T.size)))) (by rw [size_bs]; omega) wx)
      rw [us_bs] at HK
      clear e1 e2 hl4 hx1 hx2 hgo
      obtain ⟨n, hn⟩ : ∃ n, n = number (us (T.extract 0 k)) 2147483647 := ⟨_, rfl⟩
      rw [← hn] at HNm HP
      obtain ⟨m, hm⟩ : ∃ m, m = trim (us (T.extract k T.size)) := ⟨_, rfl⟩
      rw [← hm] at HT2 HK HP
      clear hn hm
      obtain ⟨n, ne⟩ := n
      dsimp only at HNm HP
      have hcase : ((ne != 0) = true ∧ seqR (us s) = (0, [], 80)) ∨ ((ne != 0) = false ∧ token m = false ∧ seqR (us s) = (0, [], 80)) ∨ ((ne != 0) = false ∧ token m = true ∧ seqR (us s) = (n, m, 0)) := by
        rw [HP.out]
        cases hq : (ne != 0)
        case true => exact .inl ⟨rfl, if_pos (.inl (by simpa using hq))⟩
        refine .inr ?_
        cases ht : token m
        · exact .inl ⟨rfl, rfl, if_pos (.inr rfl)⟩
        · refine .inr ⟨rfl, rfl, if_neg ?_⟩
          rintro (h | h)
          · exact h (by simpa using hq)
          · cases h
      clear HP
      have hend : ¬ k < T.size ∨ ∃ h : k < T.size, (cls T[k] != 32) = false := by
        by_cases h : k < T.size
        · refine .inr ⟨h, ?_⟩
          have := he h
          unfold blank at this
          simpa [bne] using this
        · exact .inl h
      clear he
      have hB : Below w.heap.size w w := Below.refl _ _
      have q1 : (0 : Int) ≤ (k : Int) := by omega
      have q2 : (k : Int) ≤ (T.size : Int) := by omega
      rcases hcase with ⟨hne, hE⟩ | ⟨hne, htk, hE⟩ | ⟨hne, htk, hE⟩
      case inl =>
        have HE := Lib.hid hE
        clear hE
        rcases hend with hge | ⟨hlt, t1⟩
        all_goals
          go_wp2_with (first | (go_at_call 52; refine (classR_c _ _).mono ?_; rintro e wx ⟨rfl, rfl⟩) | (go_at_call 53; refine (HNm.out _).mono ?_; rintro e wx ⟨rfl, rfl⟩) | (go_at_call 42; refine (HT2.out _).mono ?_; rintro e wx ⟨rfl, rfl⟩))
          go_ret3
          exact ⟨by rw [HE.out]; rfl, hB⟩
      all_goals
        have HE := Lib.hid hE
        rw [htk] at HK
        clear hE htk
        rcases hend with hge | ⟨hlt, t1⟩
        all_goals
          go_wp2_with (first | (go_at_call 52; refine (classR_c _ _).mono ?_; rintro e wx ⟨rfl, rfl⟩) | (go_at_call 53; refine (HNm.out _).mono ?_; rintro e wx ⟨rfl, rfl⟩) | (go_at_call 42; refine (HT2.out _).mono ?_; rintro e wx ⟨rfl, rfl⟩) | (go_at_call 45; refine (HK.out _).mono ?_; rintro e wx ⟨rfl, rfl⟩))
          go_ret3
          exact ⟨by rw [HE.out]; rfl, hB⟩
end

end Go.Proofs.YteiafgoigfehgaaDoor
