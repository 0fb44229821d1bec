/-
  Texts of parameters, parted at any sign: plain laws.
-/
import Derived.Test.YtbljmjbialinkaaDoorTxt
import Derived.Test.YtbljmjbialinkaaDoorNum
import Derived.Test.YtbljmjbialinkaaDoorFrS
namespace Go.Proofs.YtbljmjbialinkaaDoor

section
open Go.RowKit
theorem mem_glue (sep : List UInt8) : ∀ (L : List (List UInt8)) (p : List UInt8), p ∈ L → p.length ≤ (glue sep L).length
  | [], p, h => by cases h
  | [x], p, h => by rw [List.mem_singleton.1 h]; exact Nat.le_refl _
  | x :: y :: r, p, h => by
    rw [glue]
    rcases List.mem_cons.1 h with rfl | h
    · simp
    · have := mem_glue sep (y :: r) p h
      simp; omega
theorem parts_bd (c : UInt8) (l p : List UInt8) (h : p ∈ parts l c) : p.length ≤ l.length := by
  have := mem_glue [c] (parts l c) p h
  rwa [glue_parts] at this
theorem parts_ne (c : UInt8) (l : List UInt8) : parts l c ≠ [] := partsGo_ne c l false false []
/-- a slice behind its first element -/
theorem RStrs.tailA {w : World} {b off cap : Nat} {x : List UInt8} {L : List (List UInt8)} (h : RStrs w (.slice (some ⟨b, off, none⟩) (x :: L).length cap) (x :: L)) (hc : cap = 1) : RStrs w (.slice (some ⟨b, off, none⟩) L.length 0) L := by
  rcases h.cases with ⟨⟨_, _, h1⟩, _⟩ | ⟨b', off', cap', h1, h2, h2', h3, h4⟩
  · injection h1 with _ h1 _; simp at h1
  · injection h1 with e1 e2 e3
    injection e1 with e1
    injection e1 with eb eo
    subst eb eo e3 hc
    rw [List.length_cons] at h2
    have hL : L = [] := List.eq_nil_of_length_eq_zero (by omega)
    subst hL
    exact .inr ⟨b, off, 0, rfl, Nat.zero_le _, Nat.zero_le _, h3, fun j u hj => by simp at hj⟩
theorem RStrs.tailB {w : World} {b off cap : Nat} {x : List UInt8} {L : List (List UInt8)} (h : RStrs w (.slice (some ⟨b, off, none⟩) (x :: L).length cap) (x :: L)) : RStrs w (.slice (some ⟨b, off + 1, none⟩) L.length (cap - 1)) L := by
  rcases h.cases with ⟨⟨_, _, h1⟩, _⟩ | ⟨b', off', cap', h1, h2, h2', h3, h4⟩
  · injection h1 with _ h1 _; simp at h1
  · injection h1 with e1 e2 e3
    injection e1 with e1
    injection e1 with eb eo
    subst eb eo e3
    rw [List.length_cons] at h2
    refine .inr ⟨b, off + 1, cap - 1, rfl, by omega, by omega, h3, fun j u hj => ?_⟩
    have hj' : j < L.length := by have := (List.getElem?_eq_some_iff.1 hj).1; simpa using this
    have := h4 (j + 1) (by simpa using hj')
    rw [show off + 1 + j = off + (j + 1) from by omega, this]
    rw [List.getElem?_map, List.getElem?_eq_getElem hj'] at hj
    simpa [sv] using hj

theorem textGo_le : ∀ (L done : List Prm) (s : List UInt8), textGo done L = some s → s.length ≤ 200 * L.length
  | [], done, s, h => by rw [textGo] at h; injection h with h; rw [← h]; exact Nat.le_refl _
  | p :: r, done, s, h => by
    rw [textGo] at h
    split at h
    · rename_i hm
      cases hq : textGo (done ++ [p]) r with
      | none => rw [hq] at h; cases h
      | some t =>
        rw [hq] at h
        injection h with h
        have h1 := textGo_le r _ t hq
        have h2 := ptext_le p (mayS_len hm).1 (mayS_len hm).2
        rw [← h, List.length_append, List.length_cons]; omega
    · cases h
theorem textS_le (L : List Prm) : (textS L).1.length ≤ 3200 := by
  unfold textS
  split
  · exact Nat.zero_le _
  · cases h : textGo [] L with
    | none => exact Nat.zero_le _
    | some s => have := textGo_le L [] s h; show s.length ≤ _; omega
end

theorem cutb_of (c : UInt8) : ∀ (a b : List UInt8), (∀ x ∈ a, x.toNat ≠ c.toNat) → cutb c (a ++ c :: b) = (a, b, true)
  | [], b, _ => by rw [List.nil_append, cutb, if_pos rfl]
  | x :: r, b, h => by
    rw [List.cons_append, cutb, if_neg (h x (List.mem_cons_self ..)), cutb_of c r b (fun y hy => h y (List.mem_cons_of_mem _ hy))]
/-- a byte that parts nothing, quotes nothing, and is no blank -/
def wch (c : UInt8) : Bool := c.toNat != 34 && c.toNat != 60 && c.toNat != 62 && c.toNat != 59 && c.toNat != 44 && !blank c
theorem wch_facts (c : UInt8) (h : wch c = true) : c.toNat ≠ 34 ∧ c.toNat ≠ 60 ∧ c.toNat ≠ 62 ∧ c.toNat ≠ 59 ∧ c.toNat ≠ 44 ∧ blank c = false := by
  unfold wch at h
  simpa [and_assoc] using h
theorem token_wch (c : UInt8) (h : testc 8 c = true) : wch c = true ∧ c.toNat ≠ 61 := by
  have := all_bytes (fun c => testc 8 c = true → wch c = true ∧ c.toNat ≠ 61) (by decide +kernel) c
  exact this h
theorem token_allV (l : List UInt8) (h : token l = true) : (∀ c ∈ l, testc 8 c = true) ∧ l ≠ [] := by
  unfold token allc at h
  simp only [Bool.and_eq_true, decide_eq_true_eq, List.all_eq_true] at h
  exact ⟨h.2, fun e => by rw [e] at h; simp at h⟩
theorem token_wall (l : List UInt8) (h : token l = true) : l.all wch = true := by
  rw [List.all_eq_true]; exact fun c hc => (token_wch c ((token_allV l h).1 c hc)).1
theorem wch_trim (l : List UInt8) (h : l.all wch = true) : trim l = l := by
  rw [List.all_eq_true] at h
  exact trim_self l (fun c hc => (wch_facts c (h c (List.mem_of_mem_head? hc))).2.2.2.2.2) (fun c hc => (wch_facts c (h c (List.mem_of_mem_getLast? hc))).2.2.2.2.2)
/-- a byte of a host -/
def hch (c : UInt8) : Bool := testc 64 c || testc 4 c || c.toNat == 46 || c.toNat == 58 || c.toNat == 91 || c.toNat == 93
theorem hch_wch (c : UInt8) (h : hch (low c) = true) : wch c = true := by
  have := all_bytes (fun c => hch (low c) = true → wch c = true) (by decide +kernel) c
  exact this h
theorem splitc_all (c : UInt8) (P : UInt8 → Bool) : ∀ l : List UInt8, (∀ p ∈ splitc c l, p.all P = true) → ∀ x ∈ l, P x = true ∨ x.toNat = c.toNat
  | [], _, x, hx => by cases hx
  | y :: r, h, x, hx => by
    rw [splitc] at h
    by_cases hy : y.toNat = c.toNat
    · rw [if_pos hy] at h
      rcases List.mem_cons.1 hx with rfl | hx
      · exact .inr hy
      · exact splitc_all c P r (fun p hp => h p (List.mem_cons_of_mem _ hp)) x hx
    · rw [if_neg hy] at h
      have h0 := h _ (List.mem_cons_self ..)
      rw [List.all_cons, Bool.and_eq_true] at h0
      rcases List.mem_cons.1 hx with rfl | hx
      · exact .inl h0.1
      · refine splitc_all c P r (fun p hp => ?_) x hx
        rw [splitc_cut] at hp h h0
        rcases List.mem_cons.1 hp with rfl | hp
        · simpa using h0.2
        · exact h p (List.mem_cons_of_mem _ (by simpa using hp))
theorem host_all (l : List UInt8) (h : hostS l = true) : (∀ c ∈ l, hch c = true) ∧ l ≠ [] := by
  unfold hostS at h
  simp only [Bool.and_eq_true, decide_eq_true_eq] at h
  refine ⟨?_, fun e => by rw [e] at h; simp at h⟩
  have h3 := h.2
  split at h3
  · rename_i hd
    unfold sixS at h3
    simp only [Bool.and_eq_true, decide_eq_true_eq] at h3
    have hin := h3.1.2
    rw [List.all_eq_true] at hin
    intro c hc
    obtain ⟨i, hi, rfl⟩ := List.getElem_of_mem hc
    have hlen := h3.1.1.1
    rcases Nat.eq_zero_or_pos i with h0 | h0
    · subst h0
      have : l.head? = some 91 := by simpa using hd
      rw [List.head?_eq_getElem?, List.getElem?_eq_getElem hi] at this
      injection this with this
      rw [this]; decide +kernel
    · by_cases he : i = l.length - 1
      · have hl : l.getLast? = some 93 := by simpa using h3.1.1.2
        rw [List.getLast?_eq_getElem?, ← he, List.getElem?_eq_getElem hi] at hl
        injection hl with hl
        rw [hl]; decide +kernel
      · have hm : l[i] ∈ inner l (l.length - 1) := by
          unfold inner
          refine List.mem_of_getElem? (i := i - 1) ?_
          rw [List.getElem?_drop, List.getElem?_take_of_lt (by omega), show 1 + (i - 1) = i from by omega, List.getElem?_eq_getElem hi]
        have hs := hin _ hm
        unfold sixb at hs
        unfold hch
        simp only [Bool.or_eq_true] at hs ⊢
        rcases hs with (hs | hs) | hs
        · exact .inl (.inl (.inr hs))
        · exact .inl (.inl (.inl (.inr hs)))
        · exact .inl (.inl (.inl (.inl (.inr hs))))
  · rw [List.all_eq_true] at h3
    intro c hc
    rcases splitc_all 46 (testc 64) l (fun p hp => by
      have := h3 p hp
      unfold label allc at this
      simp only [Bool.and_eq_true] at this
      exact this.1.1.2) c hc with h4 | h4
    · unfold hch; rw [h4]; rfl
    · unfold hch
      rw [show c = 46 from UInt8.toNat_inj.1 h4]; decide +kernel
theorem word_wall (l : List UInt8) (h : wordS l = true) : l.all wch = true ∧ l ≠ [] := by
  unfold wordS at h
  simp only [Bool.or_eq_true] at h
  rcases h with h | h
  · exact ⟨token_wall l h, (token_allV l h).2⟩
  · obtain ⟨h1, h2⟩ := host_all _ h
    refine ⟨?_, fun e => h2 (by rw [e]; rfl)⟩
    rw [List.all_eq_true]
    intro c hc
    refine hch_wch c (h1 _ ?_)
    unfold lowr; exact List.mem_map.2 ⟨c, hc, rfl⟩

/-- a parameter's text, but for the semicolon -/
def ptail (p : Prm) : List UInt8 := p.name ++ (if p.has = true then 61 :: (if wordS p.value = true then p.value else (quote p.value).1) else [])
theorem parts_wch (sep : UInt8) : ∀ (r cur x : List UInt8), (∀ c ∈ r, c.toNat ≠ 34 ∧ c.toNat ≠ 60 ∧ c.toNat ≠ 62 ∧ c.toNat ≠ sep.toNat) → partsGo sep false false cur (r ++ x) = partsGo sep false false (cur ++ r) x
  | [], cur, x, _ => by simp
  | c :: r, cur, x, h => by
    obtain ⟨h1, h2, h3, h4⟩ := h c (List.mem_cons_self ..)
    rw [List.cons_append, pgo_cons sep false false cur c _ (by rintro ⟨h, _⟩; cases h), if_neg h1, if_neg (by decide), if_neg h2, if_neg h3, if_neg (by rintro ⟨h, _⟩; exact h4 h), parts_wch sep r (cur ++ [c]) x (fun d hd => h d (List.mem_cons_of_mem _ hd))]
    simp
theorem parts_in (sep : UInt8) : ∀ (l cur x : List UInt8), l.any broken = false → partsGo sep true false cur (l.flatMap qbyte ++ x) = partsGo sep true false (cur ++ l.flatMap qbyte) x
  | [], cur, x, _ => by simp
  | c :: r, cur, x, h => by
    rw [List.any_cons, Bool.or_eq_false_iff] at h
    rw [List.flatMap_cons, List.append_assoc]
    rcases unq_qbyte c h.1 with ⟨hb, hn⟩ | ⟨hb, _⟩
    · have hq : qbyte c = [c] := by unfold qbyte; rw [if_pos hb]
      have h34 : c.toNat ≠ 34 := by unfold bare at hb; intro e; rw [e] at hb; simp at hb
      rw [hq, List.singleton_append, pgo_cons sep true false cur c _ (by rintro ⟨_, h⟩; exact hn h), if_neg h34, if_pos rfl, parts_in sep r (cur ++ [c]) x h.2]
      simp
    · have hq : qbyte c = [92, c] := by unfold qbyte; rw [if_neg (by rw [hb]; decide)]
      rw [hq]
      show partsGo sep true false cur (92 :: c :: (r.flatMap qbyte ++ x)) = _
      rw [pgo_esc sep false cur 92 _ (by decide)]
      show partsGo sep true false (cur ++ [92, c]) (r.flatMap qbyte ++ x) = _
      rw [parts_in sep r (cur ++ [92, c]) x h.2]
      simp
theorem quote_okB (l : List UInt8) (h : ((quote l).2 == 0) = true) : l.any broken = false ∧ (quote l).1 = 34 :: (l.flatMap qbyte ++ [34]) := by
  unfold quote at h ⊢
  cases hb : l.any broken
  · rw [if_neg (by decide)]; exact ⟨rfl, rfl⟩
  · rw [hb, if_pos rfl] at h; exact absurd h (by decide)
theorem parts_quote (sep : UInt8) (l cur x : List UInt8) (h : ((quote l).2 == 0) = true) : partsGo sep false false cur ((quote l).1 ++ x) = partsGo sep false false (cur ++ (quote l).1) x := by
  obtain ⟨hb, hq⟩ := quote_okB l h
  rw [hq, List.cons_append, pgo_cons sep false false cur 34 _ (by rintro ⟨h, _⟩; cases h), if_pos (by decide), List.append_assoc]
  show partsGo sep true false (cur ++ [34]) _ = _
  rw [parts_in sep l _ _ hb, List.singleton_append, pgo_cons sep true false _ 34 _ (by rintro ⟨_, h⟩; revert h; decide), if_pos (by decide)]
  show partsGo sep false false _ x = _
  simp
theorem may_parts {L : List Prm} {p : Prm} (h : mayS L p = true) : token p.name = true ∧ ((quote p.value).2 == 0) = true ∧ (p.has = true ∨ p.value = []) := by
  unfold mayS at h
  simp only [Bool.and_eq_true, Bool.or_eq_true, beq_iff_eq] at h
  exact ⟨h.1.1.1.1, by rw [beq_iff_eq]; exact h.1.2, h.2⟩
theorem parts_ptail (sep : UInt8) (hsep : sep = 59 ∨ sep = 44) {L : List Prm} {p : Prm} (h : mayS L p = true) (cur x : List UInt8) : partsGo sep false false cur (ptail p ++ x) = partsGo sep false false (cur ++ ptail p) x := by
  obtain ⟨hn, hq, _⟩ := may_parts h
  have hw : ∀ l : List UInt8, l.all wch = true → ∀ c ∈ l, c.toNat ≠ 34 ∧ c.toNat ≠ 60 ∧ c.toNat ≠ 62 ∧ c.toNat ≠ sep.toNat := fun l hl c hc => by
    obtain ⟨a, b, d, e, f, _⟩ := wch_facts c (List.all_eq_true.1 hl c hc)
    exact ⟨a, b, d, by rcases hsep with rfl | rfl; exact e; exact f⟩
  unfold ptail
  rw [List.append_assoc, parts_wch sep p.name cur _ (hw _ (token_wall _ hn))]
  split
  · rw [show (61 :: (if wordS p.value = true then p.value else (quote p.value).1)) = [61] ++ (if wordS p.value = true then p.value else (quote p.value).1) from rfl, List.append_assoc, parts_wch sep [61] _ _ (by intro c hc; rw [List.mem_singleton.1 hc]; rcases hsep with rfl | rfl <;> decide)]
    split
    · rename_i hwd
      rw [parts_wch sep _ _ _ (hw _ (word_wall _ hwd).1)]; simp
    · rw [parts_quote sep _ _ _ hq]; simp
  · simp
theorem parts_text : ∀ (L done : List Prm) (cur s : List UInt8), textGo done L = some s → partsGo 59 false false cur s = cur :: L.map ptail
  | [], done, cur, s, h => by rw [textGo] at h; injection h with h; rw [← h]; rfl
  | p :: r, done, cur, s, h => by
    rw [textGo] at h
    split at h
    · rename_i hm
      cases hq : textGo (done ++ [p]) r with
      | none => rw [hq] at h; cases h
      | some t =>
        rw [hq] at h
        injection h with h
        subst h
        show partsGo 59 false false cur (59 :: (ptail p ++ t)) = _
        rw [pgo_cons 59 false false cur 59 _ (by rintro ⟨h, _⟩; cases h), if_neg (by decide), if_neg (by decide), if_neg (by decide), if_neg (by decide), if_pos ⟨rfl, rfl⟩, parts_ptail 59 (.inl rfl) hm [] t, List.nil_append, parts_text r _ (ptail p) t hq]
        rfl
    · cases h
/-- no comma parts a text of parameters -/
theorem comma_text : ∀ (L done : List Prm) (cur s x : List UInt8), textGo done L = some s → partsGo 44 false false cur (s ++ x) = partsGo 44 false false (cur ++ s) x
  | [], done, cur, s, x, h => by rw [textGo] at h; injection h with h; rw [← h]; simp
  | p :: r, done, cur, s, x, h => by
    rw [textGo] at h
    split at h
    · rename_i hm
      cases hq : textGo (done ++ [p]) r with
      | none => rw [hq] at h; cases h
      | some t =>
        rw [hq] at h
        injection h with h
        subst h
        show partsGo 44 false false cur (59 :: ((ptail p ++ t) ++ x)) = partsGo 44 false false (cur ++ 59 :: (ptail p ++ t)) x
        rw [pgo_cons 44 false false cur 59 _ (by rintro ⟨h, _⟩; cases h), if_neg (by decide), if_neg (by decide), if_neg (by decide), if_neg (by decide), if_neg (by rintro ⟨h, _⟩; revert h; decide), List.append_assoc, parts_ptail 44 (.inr rfl) hm, comma_text r _ _ t x hq]
        simp
    · cases h
/-- a parameter's text ends in no blank -/
theorem ptail_last {L : List Prm} {p : Prm} (h : mayS L p = true) : ptail p ≠ [] ∧ ∀ c, (ptail p).getLast? = some c → blank c = false := by
  obtain ⟨hn, hq, _⟩ := may_parts h
  obtain ⟨ht, hne⟩ := token_allV _ hn
  have hw : ∀ l : List UInt8, l.all wch = true → ∀ c ∈ l, blank c = false := fun l hl c hc => (wch_facts c (List.all_eq_true.1 hl c hc)).2.2.2.2.2
  refine ⟨fun e => ?_, ?_⟩
  · unfold ptail at e
    exact hne (List.append_eq_nil_iff.1 e).1
  · unfold ptail
    split
    · split
      · rename_i hwd
        obtain ⟨h1, h2⟩ := word_wall _ hwd
        intro c hc
        rw [show (p.name ++ 61 :: p.value) = (p.name ++ [61]) ++ p.value from by simp, List.getLast?_append] at hc
        cases hl : p.value.getLast? with
        | none => exact absurd (List.getLast?_eq_none_iff.1 hl) h2
        | some d => rw [hl] at hc; injection hc with hc; rw [← hc]; exact hw _ h1 d (List.mem_of_mem_getLast? hl)
      · intro c hc
        obtain ⟨_, hqe⟩ := quote_okB p.value hq
        rw [hqe, show (p.name ++ 61 :: 34 :: (p.value.flatMap qbyte ++ [34])) = (p.name ++ 61 :: 34 :: p.value.flatMap qbyte) ++ [34] from by simp, List.getLast?_concat] at hc
        injection hc with hc; rw [← hc]; decide +kernel
    · intro c hc
      rw [List.append_nil] at hc
      exact hw _ (token_wall _ hn) c (List.mem_of_mem_getLast? hc)
theorem text_last : ∀ (L done : List Prm) (s : List UInt8), textGo done L = some s → ∀ c, s.getLast? = some c → blank c = false
  | [], done, s, h => by rw [textGo] at h; injection h with h; rw [← h]; intro c hc; cases hc
  | p :: r, done, s, h => by
    rw [textGo] at h
    split at h
    · rename_i hm
      cases hq : textGo (done ++ [p]) r with
      | none => rw [hq] at h; cases h
      | some t =>
        rw [hq] at h
        injection h with h
        subst h
        obtain ⟨h1, h2⟩ := ptail_last hm
        have hl := text_last r _ t hq
        intro c hc
        replace hc : (59 :: (ptail p ++ t)).getLast? = some c := hc
        rw [show (59 :: (ptail p ++ t)) = ([59] ++ ptail p) ++ t from by simp, List.getLast?_append] at hc
        cases ht : t.getLast? with
        | some d => rw [ht] at hc; injection hc with hc; rw [← hc]; exact hl d ht
        | none =>
          rw [ht, List.getLast?_append] at hc
          cases hp : (ptail p).getLast? with
          | none => exact absurd (List.getLast?_eq_none_iff.1 hp) h1
          | some d => rw [hp] at hc; injection hc with hc; rw [← hc]; exact h2 d hp
    · cases h
theorem cut_ptail {L : List Prm} {p : Prm} (h : mayS L p = true) (v : List UInt8) (hv : (if p.has = true then 61 :: (if wordS p.value = true then p.value else (quote p.value).1) else []) = v) :
    cutb 61 (p.name ++ v) = if p.has = true then (p.name, (if wordS p.value = true then p.value else (quote p.value).1), true) else (p.name, [], false) := by
  obtain ⟨hn, _, _⟩ := may_parts h
  have hne : ∀ x ∈ p.name, x.toNat ≠ (61 : UInt8).toNat := fun x hx => (token_wch x ((token_allV _ hn).1 x hx)).2
  subst hv
  split
  · exact cutb_of 61 _ _ hne
  · have : ∀ l : List UInt8, (∀ x ∈ l, x.toNat ≠ (61 : UInt8).toNat) → cutb 61 (l ++ []) = (l, [], false) := by
      intro l
      induction l with
      | nil => intro _; rfl
      | cons x r ih =>
        intro h
        rw [List.cons_append, cutb, if_neg (h x (List.mem_cons_self ..)), ih (fun y hy => h y (List.mem_cons_of_mem _ hy))]
    exact this _ hne
theorem opens_wall (l : List UInt8) (h : l.all wch = true) : opens 34 l = false := by
  cases l with
  | nil => rfl
  | cons c r =>
    rw [List.all_cons, Bool.and_eq_true] at h
    have := (wch_facts c h.1).1
    unfold opens
    rw [beq_eq_false_iff_ne]; exact this
theorem field_ptail {L : List Prm} {p : Prm} (h : mayS L p = true) : field L (ptail p) = some p := by
  have hc := cut_ptail h _ rfl
  obtain ⟨hn, hq, hh⟩ := may_parts h
  have htn := wch_trim _ (token_wall _ hn)
  have hck : chk L p = some p := by unfold chk; rw [if_pos h]
  unfold field ptail
  rw [hc]
  obtain ⟨pn, pv, ph⟩ := p
  dsimp only at *
  cases ph
  · have hv : pv = [] := by rcases hh with hh | hh; cases hh; exact hh
    subst hv
    rw [if_neg (by decide)]
    unfold fieldOf
    dsimp only
    rw [htn, show trim ([] : List UInt8) = [] from rfl, if_neg (by decide), if_neg (by rintro ⟨h, _⟩; cases h)]
    exact hck
  · rw [if_pos rfl]
    unfold fieldOf
    dsimp only
    rw [htn]
    by_cases hw : wordS pv = true
    · have hww := (word_wall pv hw).1
      rw [if_pos hw, wch_trim pv hww, opens_wall pv hww, if_neg (by decide), if_neg (by rintro ⟨_, h⟩; rw [hw] at h; cases h)]
      exact hck
    · rw [if_neg hw]
      obtain ⟨_, hqe⟩ := quote_okB pv hq
      have hbl : blank 34 = false := by decide +kernel
      have ht : trim (quote pv).1 = (quote pv).1 := by
        refine trim_self _ (fun c hc => ?_) (fun c hc => ?_)
        · rw [hqe] at hc; injection hc with hc; rw [← hc]; exact hbl
        · rw [hqe, show (34 :: (pv.flatMap qbyte ++ [34]) : List UInt8) = (34 :: pv.flatMap qbyte) ++ [34] from rfl, List.getLast?_concat] at hc
          injection hc with hc; rw [← hc]; exact hbl
      have ho : opens 34 (quote pv).1 = true := by rw [hqe]; rfl
      rw [ht, if_pos ho, unquote_quote pv (by simpa using hq), if_pos rfl]
      exact hck
theorem fields_text : ∀ (L done : List Prm) (s : List UInt8), textGo done L = some s → fieldsGo done (L.map ptail) = some (done ++ L)
  | [], done, s, _ => by rw [List.map_nil, fieldsGo, List.append_nil]
  | p :: r, done, s, h => by
    rw [textGo] at h
    split at h
    · rename_i hm
      cases hq : textGo (done ++ [p]) r with
      | none => rw [hq] at h; cases h
      | some t =>
        rw [List.map_cons, fieldsGo, field_ptail hm]
        show fieldsGo (done ++ [p]) (r.map ptail) = _
        rw [fields_text r _ t hq]; simp
    · cases h
theorem textS_ok (L : List Prm) (h : (textS L).2 = 0) : L.length ≤ 16 ∧ textGo [] L = some (textS L).1 := by
  unfold textS at h ⊢
  by_cases hl : 16 < L.length
  · rw [if_pos hl] at h; exact absurd h (by decide)
  · rw [if_neg hl] at h ⊢
    refine ⟨by omega, ?_⟩
    cases hq : textGo [] L with
    | none => rw [hq] at h; exact absurd h (by decide)
    | some s => rfl
/-- what is read may be written -/
theorem fields_may : ∀ (Ps : List (List UInt8)) (done F : List Prm), fieldsGo done Ps = some F → ∃ L, F = done ++ L ∧ L.length = Ps.length ∧ (textGo done L).isSome = true
  | [], done, F, h => by rw [fieldsGo] at h; injection h with h; exact ⟨[], by rw [← h]; simp, rfl, rfl⟩
  | x :: r, done, F, h => by
    rw [fieldsGo] at h
    cases hf : field done x with
    | none => rw [hf] at h; cases h
    | some q =>
      rw [hf] at h
      obtain ⟨L, h1, h2, h3⟩ := fields_may r (done ++ [q]) F h
      have hm : mayS done q = true := by
        unfold field fieldOf at hf
        split at hf
        · split at hf
          · unfold chk at hf; split at hf
            · injection hf with hf; rw [← hf]; assumption
            · cases hf
          · cases hf
        · split at hf
          · cases hf
          · unfold chk at hf; split at hf
            · injection hf with hf; rw [← hf]; assumption
            · cases hf
      refine ⟨q :: L, by rw [h1]; simp, by simp [h2], ?_⟩
      rw [textGo, if_pos hm]
      cases hq : textGo (done ++ [q]) L with
      | none => rw [hq] at h3; cases h3
      | some t => rfl
theorem fields_textS (Ps : List (List UInt8)) (h : (fieldsS Ps).2 = 0) : (textS (fieldsS Ps).1).2 = 0 := by
  unfold fieldsS at h ⊢
  split at h
  · exact absurd h (by decide)
  · rename_i hl
    rw [if_neg hl]
    cases hq : fieldsGo [] Ps with
    | none => rw [hq] at h; exact absurd h (by decide)
    | some F =>
      obtain ⟨L, h3, h4, h5⟩ := fields_may _ _ _ hq
      rw [List.nil_append] at h3
      subst h3
      show (textS F).2 = 0
      unfold textS
      rw [if_neg (by omega)]
      cases ht : textGo [] F with
      | none => rw [ht] at h5; cases h5
      | some t => rfl
/-- the text of parameters, parted, is the parameters -/
theorem fieldsS_text (F : List Prm) (hF : (textS F).2 = 0) : fieldsS (F.map ptail) = (F, 0) := by
  obtain ⟨hl, ht⟩ := textS_ok F hF
  unfold fieldsS
  rw [List.length_map, if_neg (by omega), fields_text F [] _ ht]; rfl
theorem number_bdV (l : List UInt8) (most : Int) (h0 : 0 ≤ most) (h : (number l most).2 = 0) : 0 ≤ (number l most).1 ∧ (number l most).1 ≤ most := by
  by_cases hd : l = [] ∨ allc 1 l = false
  · unfold number at h; rw [if_pos hd] at h; exact absurd h (by decide)
  · have hb : l ≠ [] := fun h => hd (.inl h)
    have ha : l.all isDig = true := by
      rw [← allc_dig]
      cases h : allc 1 l
      · exact absurd (.inr h) hd
      · rfl
    rw [number_val most h0 l hb ha] at h ⊢
    split at h
    · rename_i hv
      rw [if_pos hv]
      exact ⟨valF_ge l 0 ha (Int.le_refl _), hv⟩
    · exact absurd h (by decide)


end Go.Proofs.YtbljmjbialinkaaDoor
