/-
  Plain laws: what is written is read as it was (sequence numbers, events, states).
-/
import Derived.Test.YteiafgoigfehgaaDoorEvt
import Derived.Test.YteiafgoigfehgaaDoorSqs
import Derived.Test.YteiafgoigfehgaaDoorSho
import Derived.Test.YteiafgoigfehgaaDoorTakesP
namespace Go.Proofs.YteiafgoigfehgaaDoor

/-- a byte that parts nothing, quotes nothing, and is no blank -/
def wch (c : UInt8) : Bool := c.toNat != 34 && c.toNat != 60 && c.toNat != 62 && c.toNat != 59 && !blank c
theorem wch_facts (c : UInt8) (h : wch c = true) : c.toNat ≠ 34 ∧ c.toNat ≠ 60 ∧ c.toNat ≠ 62 ∧ c.toNat ≠ 59 ∧ blank c = false := by
  unfold wch at h
  simpa [and_assoc] using h
theorem token_wch (c : UInt8) (h : testc 8 c = true) : wch c = true ∧ c.toNat ≠ 61 := by
  have := all_bytes (fun c => testc 8 c = true → wch c = true ∧ c.toNat ≠ 61) (by decide +kernel) c
  exact this h
theorem token_all (l : List UInt8) (h : token l = true) : (∀ c ∈ l, testc 8 c = true) ∧ l ≠ [] := by
  unfold token allc at h
  simp only [Bool.and_eq_true, decide_eq_true_eq, List.all_eq_true] at h
  exact ⟨h.2, fun e => by rw [e] at h; simp at h⟩
theorem token_wall (l : List UInt8) (h : token l = true) : l.all wch = true := by
  rw [List.all_eq_true]; exact fun c hc => (token_wch c ((token_all l h).1 c hc)).1
theorem wch_trim (l : List UInt8) (h : l.all wch = true) : trim l = l := by
  rw [List.all_eq_true] at h
  exact trim_self l (fun c hc => (wch_facts c (h c (List.mem_of_mem_head? hc))).2.2.2.2) (fun c hc => (wch_facts c (h c (List.mem_of_mem_getLast? hc))).2.2.2.2)
/-- a byte of a host -/
def hch (c : UInt8) : Bool := testc 64 c || testc 4 c || c.toNat == 46 || c.toNat == 58 || c.toNat == 91 || c.toNat == 93
theorem hch_wch (c : UInt8) (h : hch (low c) = true) : wch c = true := by
  have := all_bytes (fun c => hch (low c) = true → wch c = true) (by decide +kernel) c
  exact this h
theorem splitc_all (c : UInt8) (P : UInt8 → Bool) : ∀ l : List UInt8, (∀ p ∈ splitc c l, p.all P = true) → ∀ x ∈ l, P x = true ∨ x.toNat = c.toNat
  | [], _, x, hx => by cases hx
  | y :: r, h, x, hx => by
    rw [splitc] at h
    by_cases hy : y.toNat = c.toNat
    · rw [if_pos hy] at h
      rcases List.mem_cons.1 hx with rfl | hx
      · exact .inr hy
      · exact splitc_all c P r (fun p hp => h p (List.mem_cons_of_mem _ hp)) x hx
    · rw [if_neg hy] at h
      have h0 := h _ (List.mem_cons_self ..)
      rw [List.all_cons, Bool.and_eq_true] at h0
      rcases List.mem_cons.1 hx with rfl | hx
      · exact .inl h0.1
      · refine splitc_all c P r (fun p hp => ?_) x hx
        rw [splitc_cut] at hp h h0
        rcases List.mem_cons.1 hp with rfl | hp
        · simpa using h0.2
        · exact h p (List.mem_cons_of_mem _ (by simpa using hp))
theorem host_all (l : List UInt8) (h : hostS l = true) : (∀ c ∈ l, hch c = true) ∧ l ≠ [] := by
  unfold hostS at h
  simp only [Bool.and_eq_true, decide_eq_true_eq] at h
  refine ⟨?_, fun e => by rw [e] at h; simp at h⟩
  have h3 := h.2
  split at h3
  · rename_i hd
    unfold sixS at h3
    simp only [Bool.and_eq_true, decide_eq_true_eq] at h3
    have hin := h3.1.2
    rw [List.all_eq_true] at hin
    intro c hc
    obtain ⟨i, hi, rfl⟩ := List.getElem_of_mem hc
    have hlen := h3.1.1.1
    rcases Nat.eq_zero_or_pos i with h0 | h0
    · subst h0
      have : l.head? = some 91 := by simpa using hd
      rw [List.head?_eq_getElem?, List.getElem?_eq_getElem hi] at this
      injection this with this
      rw [this]; decide +kernel
    · by_cases he : i = l.length - 1
      · have hl : l.getLast? = some 93 := by simpa using h3.1.1.2
        rw [List.getLast?_eq_getElem?, ← he, List.getElem?_eq_getElem hi] at hl
        injection hl with hl
        rw [hl]; decide +kernel
      · have hm : l[i] ∈ inner l (l.length - 1) := by
          unfold inner
          refine List.mem_of_getElem? (i := i - 1) ?_
          rw [List.getElem?_drop, List.getElem?_take_of_lt (by omega), show 1 + (i - 1) = i from by omega, List.getElem?_eq_getElem hi]
        have hs := hin _ hm
        unfold sixb at hs
        unfold hch
        simp only [Bool.or_eq_true] at hs ⊢
        rcases hs with (hs | hs) | hs
        · exact .inl (.inl (.inr hs))
        · exact .inl (.inl (.inl (.inr hs)))
        · exact .inl (.inl (.inl (.inl (.inr hs))))
  · rw [List.all_eq_true] at h3
    intro c hc
    rcases splitc_all 46 (testc 64) l (fun p hp => by
      have := h3 p hp
      unfold label allc at this
      simp only [Bool.and_eq_true] at this
      exact this.1.1.2) c hc with h4 | h4
    · unfold hch; rw [h4]; rfl
    · unfold hch
      rw [show c = 46 from UInt8.toNat_inj.1 h4]; decide +kernel
theorem word_wall (l : List UInt8) (h : wordS l = true) : l.all wch = true ∧ l ≠ [] := by
  unfold wordS at h
  simp only [Bool.or_eq_true] at h
  rcases h with h | h
  · exact ⟨token_wall l h, (token_all l h).2⟩
  · obtain ⟨h1, h2⟩ := host_all _ h
    refine ⟨?_, fun e => h2 (by rw [e]; rfl)⟩
    rw [List.all_eq_true]
    intro c hc
    refine hch_wch c (h1 _ ?_)
    unfold lowr; exact List.mem_map.2 ⟨c, hc, rfl⟩

/-- a parameter's text, but for the semicolon -/
def ptail (p : Prm) : List UInt8 := p.name ++ (if p.has = true then 61 :: (if wordS p.value = true then p.value else (quote p.value).1) else [])
theorem parts_wch : ∀ (r cur x : List UInt8), (∀ c ∈ r, c.toNat ≠ 34 ∧ c.toNat ≠ 60 ∧ c.toNat ≠ 62 ∧ c.toNat ≠ 59) → partsGo 59 false false cur (r ++ x) = partsGo 59 false false (cur ++ r) x
  | [], cur, x, _ => by simp
  | c :: r, cur, x, h => by
    obtain ⟨h1, h2, h3, h4⟩ := h c (List.mem_cons_self ..)
    rw [List.cons_append, pgo_cons 59 false false cur c _ (by rintro ⟨h, _⟩; cases h), if_neg h1, if_neg (by decide), if_neg h2, if_neg h3, if_neg (by rintro ⟨h, _⟩; exact h4 h), parts_wch r (cur ++ [c]) x (fun d hd => h d (List.mem_cons_of_mem _ hd))]
    simp
theorem parts_in : ∀ (l cur x : List UInt8), l.any broken = false → partsGo 59 true false cur (l.flatMap qbyte ++ x) = partsGo 59 true false (cur ++ l.flatMap qbyte) x
  | [], cur, x, _ => by simp
  | c :: r, cur, x, h => by
    rw [List.any_cons, Bool.or_eq_false_iff] at h
    rw [List.flatMap_cons, List.append_assoc]
    rcases unq_qbyte c h.1 with ⟨hb, hn⟩ | ⟨hb, _⟩
    · have hq : qbyte c = [c] := by unfold qbyte; rw [if_pos hb]
      have h34 : c.toNat ≠ 34 := by unfold bare at hb; intro e; rw [e] at hb; simp at hb
      rw [hq, List.singleton_append, pgo_cons 59 true false cur c _ (by rintro ⟨_, h⟩; exact hn h), if_neg h34, if_pos rfl, parts_in r (cur ++ [c]) x h.2]
      simp
    · have hq : qbyte c = [92, c] := by unfold qbyte; rw [if_neg (by rw [hb]; decide)]
      rw [hq]
      show partsGo 59 true false cur (92 :: c :: (r.flatMap qbyte ++ x)) = _
      rw [pgo_esc 59 false cur 92 _ (by decide)]
      show partsGo 59 true false (cur ++ [92, c]) (r.flatMap qbyte ++ x) = _
      rw [parts_in r (cur ++ [92, c]) x h.2]
      simp
theorem quote_okB (l : List UInt8) (h : ((quote l).2 == 0) = true) : l.any broken = false ∧ (quote l).1 = 34 :: (l.flatMap qbyte ++ [34]) := by
  unfold quote at h ⊢
  cases hb : l.any broken
  · rw [if_neg (by decide)]; exact ⟨rfl, rfl⟩
  · rw [hb, if_pos rfl] at h; exact absurd h (by decide)
theorem parts_quote (l cur x : List UInt8) (h : ((quote l).2 == 0) = true) : partsGo 59 false false cur ((quote l).1 ++ x) = partsGo 59 false false (cur ++ (quote l).1) x := by
  obtain ⟨hb, hq⟩ := quote_okB l h
  rw [hq, List.cons_append, pgo_cons 59 false false cur 34 _ (by rintro ⟨h, _⟩; cases h), if_pos (by decide), List.append_assoc]
  show partsGo 59 true false (cur ++ [34]) _ = _
  rw [parts_in l _ _ hb, List.singleton_append, pgo_cons 59 true false _ 34 _ (by rintro ⟨_, h⟩; revert h; decide), if_pos (by decide)]
  show partsGo 59 false false _ x = _
  simp
theorem may_parts {L : List Prm} {p : Prm} (h : mayS L p = true) : token p.name = true ∧ ((quote p.value).2 == 0) = true ∧ (p.has = true ∨ p.value = []) := by
  unfold mayS at h
  simp only [Bool.and_eq_true, Bool.or_eq_true, beq_iff_eq] at h
  exact ⟨h.1.1.1.1, by rw [beq_iff_eq]; exact h.1.2, h.2⟩
theorem parts_ptail {L : List Prm} {p : Prm} (h : mayS L p = true) (cur x : List UInt8) : partsGo 59 false false cur (ptail p ++ x) = partsGo 59 false false (cur ++ ptail p) x := by
  obtain ⟨hn, hq, _⟩ := may_parts h
  have hw : ∀ l : List UInt8, l.all wch = true → ∀ c ∈ l, c.toNat ≠ 34 ∧ c.toNat ≠ 60 ∧ c.toNat ≠ 62 ∧ c.toNat ≠ 59 := fun l hl c hc => by
    obtain ⟨a, b, d, e, _⟩ := wch_facts c (List.all_eq_true.1 hl c hc)
    exact ⟨a, b, d, e⟩
  unfold ptail
  rw [List.append_assoc, parts_wch p.name cur _ (hw _ (token_wall _ hn))]
  split
  · rw [show (61 :: (if wordS p.value = true then p.value else (quote p.value).1)) = [61] ++ (if wordS p.value = true then p.value else (quote p.value).1) from rfl, List.append_assoc, parts_wch [61] _ _ (by intro c hc; rw [List.mem_singleton.1 hc]; decide)]
    split
    · rename_i hwd
      rw [parts_wch _ _ _ (hw _ (word_wall _ hwd).1)]; simp
    · rw [parts_quote _ _ _ hq]; simp
  · simp
theorem parts_text : ∀ (L done : List Prm) (cur s : List UInt8), textGo done L = some s → partsGo 59 false false cur s = cur :: L.map ptail
  | [], done, cur, s, h => by rw [textGo] at h; injection h with h; rw [← h]; rfl
  | p :: r, done, cur, s, h => by
    rw [textGo] at h
    split at h
    · rename_i hm
      cases hq : textGo (done ++ [p]) r with
      | none => rw [hq] at h; cases h
      | some t =>
        rw [hq] at h
        injection h with h
        subst h
        show partsGo 59 false false cur (59 :: (ptail p ++ t)) = _
        rw [pgo_cons 59 false false cur 59 _ (by rintro ⟨h, _⟩; cases h), if_neg (by decide), if_neg (by decide), if_neg (by decide), if_neg (by decide), if_pos ⟨rfl, rfl⟩, parts_ptail hm [] t, List.nil_append, parts_text r _ (ptail p) t hq]
        rfl
    · cases h
theorem cut_ptail {L : List Prm} {p : Prm} (h : mayS L p = true) (v : List UInt8) (hv : (if p.has = true then 61 :: (if wordS p.value = true then p.value else (quote p.value).1) else []) = v) :
    cutb 61 (p.name ++ v) = if p.has = true then (p.name, (if wordS p.value = true then p.value else (quote p.value).1), true) else (p.name, [], false) := by
  obtain ⟨hn, _, _⟩ := may_parts h
  have hne : ∀ x ∈ p.name, x.toNat ≠ (61 : UInt8).toNat := fun x hx => (token_wch x ((token_all _ hn).1 x hx)).2
  subst hv
  split
  · exact cutb_of 61 _ _ hne
  · have : ∀ l : List UInt8, (∀ x ∈ l, x.toNat ≠ (61 : UInt8).toNat) → cutb 61 (l ++ []) = (l, [], false) := by
      intro l
      induction l with
      | nil => intro _; rfl
      | cons x r ih =>
        intro h
        rw [List.cons_append, cutb, if_neg (h x (List.mem_cons_self ..)), ih (fun y hy => h y (List.mem_cons_of_mem _ hy))]
    exact this _ hne
theorem opens_wall (l : List UInt8) (h : l.all wch = true) : opens 34 l = false := by
  cases l with
  | nil => rfl
  | cons c r =>
    rw [List.all_cons, Bool.and_eq_true] at h
    have := (wch_facts c h.1).1
    unfold opens
    rw [beq_eq_false_iff_ne]; exact this
theorem field_ptail {L : List Prm} {p : Prm} (h : mayS L p = true) : field L (ptail p) = some p := by
  have hc := cut_ptail h _ rfl
  obtain ⟨hn, hq, hh⟩ := may_parts h
  have htn := wch_trim _ (token_wall _ hn)
  have hck : chk L p = some p := by unfold chk; rw [if_pos h]
  unfold field ptail
  rw [hc]
  obtain ⟨pn, pv, ph⟩ := p
  dsimp only at *
  cases ph
  · have hv : pv = [] := by rcases hh with hh | hh; cases hh; exact hh
    subst hv
    rw [if_neg (by decide)]
    unfold fieldOf
    dsimp only
    rw [htn, show trim ([] : List UInt8) = [] from rfl, if_neg (by decide), if_neg (by rintro ⟨h, _⟩; cases h)]
    exact hck
  · rw [if_pos rfl]
    unfold fieldOf
    dsimp only
    rw [htn]
    by_cases hw : wordS pv = true
    · have hww := (word_wall pv hw).1
      rw [if_pos hw, wch_trim pv hww, opens_wall pv hww, if_neg (by decide), if_neg (by rintro ⟨_, h⟩; rw [hw] at h; cases h)]
      exact hck
    · rw [if_neg hw]
      obtain ⟨_, hqe⟩ := quote_okB pv hq
      have hbl : blank 34 = false := by decide +kernel
      have ht : trim (quote pv).1 = (quote pv).1 := by
        refine trim_self _ (fun c hc => ?_) (fun c hc => ?_)
        · rw [hqe] at hc; injection hc with hc; rw [← hc]; exact hbl
        · rw [hqe, show (34 :: (pv.flatMap qbyte ++ [34]) : List UInt8) = (34 :: pv.flatMap qbyte) ++ [34] from rfl, List.getLast?_concat] at hc
          injection hc with hc; rw [← hc]; exact hbl
      have ho : opens 34 (quote pv).1 = true := by rw [hqe]; rfl
      rw [ht, if_pos ho, unquote_quote pv (by simpa using hq), if_pos rfl]
      exact hck
theorem fields_text : ∀ (L done : List Prm) (s : List UInt8), textGo done L = some s → fieldsGo done (L.map ptail) = some (done ++ L)
  | [], done, s, _ => by rw [List.map_nil, fieldsGo, List.append_nil]
  | p :: r, done, s, h => by
    rw [textGo] at h
    split at h
    · rename_i hm
      cases hq : textGo (done ++ [p]) r with
      | none => rw [hq] at h; cases h
      | some t =>
        rw [List.map_cons, fieldsGo, field_ptail hm]
        show fieldsGo (done ++ [p]) (r.map ptail) = _
        rw [fields_text r _ t hq]; simp
    · cases h
theorem textS_ok (L : List Prm) (h : (textS L).2 = 0) : L.length ≤ 16 ∧ textGo [] L = some (textS L).1 := by
  unfold textS at h ⊢
  by_cases hl : 16 < L.length
  · rw [if_pos hl] at h; exact absurd h (by decide)
  · rw [if_neg hl] at h ⊢
    refine ⟨by omega, ?_⟩
    cases hq : textGo [] L with
    | none => rw [hq] at h; exact absurd h (by decide)
    | some s => rfl
/-- AN EVENT THAT IS WRITTEN IS READ AS IT WAS -/
theorem event_back (n : List UInt8) (F : List Prm) (hn : token n = true) (hF : (textS F).2 = 0) :
    okP (n ++ (textS F).1) = true ∧ nameP (n ++ (textS F).1) = n ∧ fieldsP (n ++ (textS F).1) = (F, 0) := by
  obtain ⟨hl, ht⟩ := textS_ok F hF
  have hp : parts (n ++ (textS F).1) 59 = n :: F.map ptail := by
    unfold parts
    rw [parts_wch n [] _ (fun c hc => by
      obtain ⟨a, b, d, e, _⟩ := wch_facts c (List.all_eq_true.1 (token_wall n hn) c hc)
      exact ⟨a, b, d, e⟩), List.nil_append]
    exact parts_text F [] n _ ht
  have h1 : nameP (n ++ (textS F).1) = n := by
    unfold nameP; rw [hp]; exact wch_trim n (token_wall n hn)
  have h2 : fieldsP (n ++ (textS F).1) = (F, 0) := by
    unfold fieldsP fieldsS
    rw [hp]
    show (if 16 < (F.map ptail).length then _ else okL 34 (fieldsGo [] (F.map ptail))) = _
    rw [List.length_map, if_neg (by omega), fields_text F [] _ ht]; rfl
  refine ⟨?_, h1, h2⟩
  unfold okP
  rw [h1, h2, hn]; rfl

end Go.Proofs.YteiafgoigfehgaaDoor
