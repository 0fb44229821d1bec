/-
  Plain laws: sequence numbers and states that are written are read as they were; what is read is written.
-/
import Derived.Test.YteiafgoigfehgaaDoorBackE
import Derived.Test.YteiafgoigfehgaaDoorSta
namespace Go.Proofs.YteiafgoigfehgaaDoor

theorem dig_tok (c : UInt8) (h : isDig c = true) : testc 8 c = true := by
  have := all_bytes (fun c => isDig c = true → testc 8 c = true) (by decide +kernel) c
  exact this h
theorem token_digits (x : Int) (h : 0 ≤ x) : token (digits x) = true := by
  unfold token allc
  have h1 : 1 ≤ (digits x).length := List.length_pos_iff.2 (digits_ne x h)
  have h2 := digits_len x
  have h3 : (digits x).all (testc 8) = true := by
    rw [List.all_eq_true]
    exact fun c hc => dig_tok c (List.all_eq_true.1 (digits_all x) c hc)
  rw [h3]; simp; omega
theorem token_quote (l : List UInt8) (h : token l = true) : ((quote l).2 == 0) = true := by
  have hb : l.any broken = false := by
    rw [← Bool.not_eq_true, List.any_eq_true]
    rintro ⟨c, hc, hbr⟩
    have := all_bytes (fun c => testc 8 c = true → broken c = false) (by decide +kernel) c
    rw [this ((token_all l h).1 c hc)] at hbr; cases hbr
  unfold quote
  rw [hb, if_neg (by decide)]; rfl
theorem nb_wall (l : List UInt8) (h : l.all wch = true) : ∀ c ∈ l, nb c = true := fun c hc => by
  unfold nb; rw [(wch_facts c (List.all_eq_true.1 h c hc)).2.2.2.2]; rfl
theorem seq_back (n : Int) (m : List UInt8) (h0 : 0 ≤ n) (h1 : n ≤ 2147483647) (hm : token m = true) : seqR (digits n ++ 32 :: m) = (n, m, 0) := by
  have hd := token_wall _ (token_digits n h0)
  have hmw := token_wall m hm
  have hne := digits_ne n h0
  have hme := (token_all m hm).2
  have ht : trim (digits n ++ 32 :: m) = digits n ++ 32 :: m := by
    refine trim_self _ (fun c hc => ?_) (fun c hc => ?_)
    · have : (digits n).head? = some c := by
        cases hq : digits n with
        | nil => exact absurd hq hne
        | cons x r => rw [hq] at hc; exact hc
      exact (wch_facts c (List.all_eq_true.1 hd c (List.mem_of_mem_head? this))).2.2.2.2
    · have : m.getLast? = some c := by
        rw [List.getLast?_append, List.getLast?_cons] at hc
        cases hq : m.getLast? with
        | none => exact absurd (List.getLast?_eq_none_iff.1 hq) hme
        | some y => rw [hq] at hc; simpa using hc
      exact (wch_facts c (List.all_eq_true.1 hmw c (List.mem_of_mem_getLast? this))).2.2.2.2
  have e1 : (digits n ++ 32 :: m).takeWhile nb = digits n := by
    rw [List.takeWhile_append_of_pos (nb_wall _ hd), List.takeWhile_cons_of_neg (by decide +kernel)]; simp
  have e2 : (digits n ++ 32 :: m).dropWhile nb = 32 :: m := by
    rw [List.dropWhile_append_of_pos (nb_wall _ hd), List.dropWhile_cons_of_neg (by decide +kernel)]
  have e3 : trim (32 :: m) = m := by
    have := trim_mid [32] m [] (by decide +kernel) rfl (fun c hc => (wch_facts c (List.all_eq_true.1 hmw c (List.mem_of_mem_head? hc))).2.2.2.2) (fun c hc => (wch_facts c (List.all_eq_true.1 hmw c (List.mem_of_mem_getLast? hc))).2.2.2.2) hme
    simpa using this
  have e4 : number (digits n) 2147483647 = (n, 0) := by
    rw [number_val _ (by decide) _ hne (digits_all n), valF_digits n h0 (by omega), if_pos h1]
  unfold seqR
  rw [ht, e1, e2, e3, e4, hm]
  rw [if_neg (by rintro (h | h); exact h rfl; cases h)]
theorem time_digits (x : Int) (h0 : 0 ≤ x) (h1 : x ≤ 2147483647) : timeS (digits x) = (x, 0) := by
  rw [time_val _ (digits_ne x h0) (digits_all x), valF_digits x h0 (by omega), if_pos h1]
theorem time_bd (l : List UInt8) (h : (timeS l).2 = 0) : 0 ≤ (timeS l).1 ∧ (timeS l).1 ≤ 2147483647 := by
  unfold timeS at h ⊢
  split
  · exact ⟨by decide, by decide⟩
  · rename_i h9
    rw [if_neg h9] at h
    have hne : ¬ (trim l = [] ∨ allc 1 (trim l) = false) := fun hh => by
      unfold number at h; rw [if_pos hh] at h; exact absurd h (by decide)
    have ha : (trim l).all isDig = true := by
      rw [← allc_dig]
      cases hq : allc 1 (trim l)
      · exact absurd (.inr hq) hne
      · rfl
    have hv := number_val 2147483647 (by decide) (trim l) (fun e => hne (.inl e)) ha
    rw [hv] at h ⊢
    have := valF_ge (trim l) 0 ha (Int.le_refl _)
    split
    · exact ⟨this, ‹_›⟩
    · rename_i hv2; rw [if_neg hv2] at h; exact absurd h (by decide)

/-- the parameters of a state's text -/
def stPrms (x : Int) (r : List UInt8) : List Prm := (if r = [] then [] else [⟨sReason, r, true⟩]) ++ (if x < 0 then [] else [⟨sExpires, digits x, true⟩])
theorem may_word (L : List Prm) (k v : List UInt8) (hk : token k = true) (hv : token v = true) (hL : (value L k).2 = false) : mayS L ⟨k, v, true⟩ = true ∧ ptext ⟨k, v, true⟩ = 59 :: (k ++ 61 :: v) := by
  have hw : wordS v = true := by unfold wordS; rw [hv]; rfl
  have hl : v.length ≤ 64 := by
    unfold token at hv
    simp only [Bool.and_eq_true, decide_eq_true_eq] at hv
    exact hv.1.2
  refine ⟨may_yes L _ hk hL hl (token_quote v hv) (.inl rfl), ?_⟩
  unfold ptext
  dsimp only
  rw [if_pos rfl, if_pos hw]
theorem st_text (x : Int) (r : List UInt8) (hx : x ≤ 2147483647) (hr : r = [] ∨ token r = true) :
    textS (stPrms x r) = ((if r = [] then [] else 59 :: (sReason ++ 61 :: r)) ++ (if x < 0 then [] else 59 :: (sExpires ++ 61 :: digits x)), 0) := by
  have k1 : token sReason = true := by decide +kernel
  have k2 : token sExpires = true := by decide +kernel
  unfold stPrms
  by_cases h1 : r = []
  · rw [if_pos h1, if_pos h1]
    by_cases h2 : x < 0
    · rw [if_pos h2, if_pos h2]; rfl
    · rw [if_neg h2, if_neg h2]
      obtain ⟨m, p⟩ := may_word [] sExpires (digits x) k2 (token_digits x (by omega)) rfl
      unfold textS
      rw [if_neg (by simp)]
      show okOr 34 (textGo [] [⟨sExpires, digits x, true⟩]) = _
      rw [textGo, if_pos m, p]; simp [textGo, okOr]
  · have htr : token r = true := by
      rcases hr with h | h
      · exact absurd h h1
      · exact h
    rw [if_neg h1, if_neg h1]
    obtain ⟨m, p⟩ := may_word [] sReason r k1 htr rfl
    by_cases h2 : x < 0
    · rw [if_pos h2, if_pos h2]
      unfold textS
      rw [if_neg (by simp)]
      show okOr 34 (textGo [] [⟨sReason, r, true⟩]) = _
      rw [textGo, if_pos m, p]; simp [textGo, okOr]
    · rw [if_neg h2, if_neg h2]
      have hs : same sReason sExpires = false := by decide +kernel
      obtain ⟨m2, p2⟩ := may_word [⟨sReason, r, true⟩] sExpires (digits x) k2 (token_digits x (by omega)) (by unfold value valueGo; rw [if_neg (by rw [hs]; decide)]; rfl)
      unfold textS
      rw [if_neg (by simp)]
      show okOr 34 (textGo [] [⟨sReason, r, true⟩, ⟨sExpires, digits x, true⟩]) = _
      rw [textGo, if_pos m, p, textGo, List.nil_append, if_pos m2, p2]; simp [textGo, okOr]
theorem st_value (x : Int) (r : List UInt8) : (value (stPrms x r) sReason).1 = r ∧ value (stPrms x r) sExpires = if x < 0 then ([], false) else (digits x, true) := by
  have s1 : same sReason sReason = true := by decide +kernel
  have s2 : same sReason sExpires = false := by decide +kernel
  have s3 : same sExpires sReason = false := by decide +kernel
  have s4 : same sExpires sExpires = true := by decide +kernel
  unfold stPrms value
  by_cases h1 : r = [] <;> by_cases h2 : x < 0
  · rw [if_pos h1, if_pos h2, if_pos h2]; exact ⟨h1.symm, rfl⟩
  · rw [if_pos h1, if_neg h2, if_neg h2]
    simp [valueGo, s3, s4, h1]
  · rw [if_neg h1, if_pos h2, if_pos h2]
    simp [valueGo, s1, s2]
  · rw [if_neg h1, if_neg h2, if_neg h2]
    simp [valueGo, s1, s2, s4]
/-- A STATE THAT MAY BE IS WRITTEN, AND READ AS IT WAS -/
theorem state_back (n : List UInt8) (x : Int) (r : List UInt8) (hn : token n = true) (hl : lowr n = n) (h1 : -1 ≤ x) (h2 : x ≤ 2147483647) (hr : r = [] ∨ token r = true) :
    (showS n x r).2 = 0 ∧ stS (showS n x r).1 = ((n, x, r), 0) := by
  have hst := st_text x r h2 hr
  have hsh : showS n x r = (n ++ (textS (stPrms x r)).1, 0) := by
    unfold showS
    rw [if_neg, hst]
    rintro (h | h | h | h | h)
    · rw [hn] at h; cases h
    · exact h hl
    · omega
    · omega
    · rcases hr with e | e
      · exact h.1 e
      · rw [e] at h; cases h.2
  obtain ⟨b1, b2, b3⟩ := event_back n (stPrms x r) hn (by rw [hst])
  obtain ⟨v1, v2⟩ := st_value x r
  rw [hsh]
  refine ⟨rfl, ?_⟩
  unfold stS
  rw [b1, b2, b3, hl, v1, v2]
  unfold stOf
  rw [if_neg (by decide), if_neg (by rintro ⟨h, h'⟩; rcases hr with e | e; exact h e; rw [e] at h'; cases h')]
  by_cases hx : x < 0
  · rw [if_pos hx, if_pos rfl, show x = -1 from by omega]
  · rw [if_neg hx, if_neg (by simp), time_digits x (by omega) h2, if_neg (by intro h; exact h rfl)]
theorem show_ok (n : List UInt8) (x : Int) (r : List UInt8) (h : (showS n x r).2 = 0) : token n = true ∧ lowr n = n ∧ -1 ≤ x ∧ x ≤ 2147483647 ∧ (r = [] ∨ token r = true) := by
  unfold showS at h
  split at h
  · exact absurd h (by decide)
  · rename_i hb
    refine ⟨?_, ?_, ?_, ?_, ?_⟩
    · cases hq : token n
      · exact absurd (.inl hq) hb
      · rfl
    · by_cases hq : lowr n = n
      · exact hq
      · exact absurd (.inr (.inl hq)) hb
    · by_cases hq : x < -1
      · exact absurd (.inr (.inr (.inl hq))) hb
      · omega
    · by_cases hq : 2147483647 < x
      · exact absurd (.inr (.inr (.inr (.inl hq)))) hb
      · omega
    · by_cases hq : r = []
      · exact .inl hq
      · refine .inr ?_
        cases ht : token r
        · exact absurd (.inr (.inr (.inr (.inr ⟨hq, ht⟩)))) hb
        · rfl
/-- what is read may be written -/
theorem fields_may : ∀ (Ps : List (List UInt8)) (done F : List Prm), fieldsGo done Ps = some F → ∃ L, F = done ++ L ∧ L.length = Ps.length ∧ (textGo done L).isSome = true
  | [], done, F, h => by rw [fieldsGo] at h; injection h with h; exact ⟨[], by rw [← h]; simp, rfl, rfl⟩
  | x :: r, done, F, h => by
    rw [fieldsGo] at h
    cases hf : field done x with
    | none => rw [hf] at h; cases h
    | some q =>
      rw [hf] at h
      obtain ⟨L, h1, h2, h3⟩ := fields_may r (done ++ [q]) F h
      have hm : mayS done q = true := by
        unfold field fieldOf at hf
        split at hf
        · split at hf
          · unfold chk at hf; split at hf
            · injection hf with hf; rw [← hf]; assumption
            · cases hf
          · cases hf
        · split at hf
          · cases hf
          · unfold chk at hf; split at hf
            · injection hf with hf; rw [← hf]; assumption
            · cases hf
      refine ⟨q :: L, by rw [h1]; simp, by simp [h2], ?_⟩
      rw [textGo, if_pos hm]
      cases hq : textGo (done ++ [q]) L with
      | none => rw [hq] at h3; cases h3
      | some t => rfl
theorem ev_once (s : List UInt8) (h : (evS s).2 = 0) : token (evS s).1.1 = true ∧ (textS (evS s).1.2).2 = 0 := by
  cases ho : okP s
  · rw [evS_no s ho] at h; exact absurd h (by decide)
  · rw [evS_yes s ho]
    unfold okP at ho
    rw [Bool.and_eq_true, beq_iff_eq] at ho
    refine ⟨ho.1, ?_⟩
    have h2 := ho.2
    unfold fieldsP fieldsS at h2 ⊢
    split at h2
    · exact absurd h2 (by decide)
    · rename_i hl
      rw [if_neg hl]
      cases hq : fieldsGo [] (parts s 59).tail with
      | none => rw [hq] at h2; exact absurd h2 (by decide)
      | some F =>
        obtain ⟨L, h3, h4, h5⟩ := fields_may _ _ _ hq
        rw [List.nil_append] at h3
        subst h3
        show (textS F).2 = 0
        unfold textS
        rw [if_neg (by omega)]
        cases ht : textGo [] F with
        | none => rw [ht] at h5; cases h5
        | some t => rfl
theorem low_tok (l : List UInt8) : token (lowr l) = token l := by
  unfold token allc
  rw [lowr_length]
  congr 1
  unfold lowr
  rw [List.all_map]
  exact congrArg (fun f => l.all f) (funext fun c => all_bytes (fun c => (testc 8 ∘ low) c = testc 8 c) (by decide +kernel) c)
theorem st_once (s : List UInt8) (h : (stS s).2 = 0) : token (stS s).1.1 = true ∧ lowr (stS s).1.1 = (stS s).1.1 ∧ -1 ≤ (stS s).1.2.1 ∧ (stS s).1.2.1 ≤ 2147483647 ∧ ((stS s).1.2.2 = [] ∨ token (stS s).1.2.2 = true) := by
  have hll : lowr (lowr (nameP s)) = lowr (nameP s) := by
    unfold lowr; rw [List.map_map]; exact List.map_congr_left fun c _ => low_low c
  unfold stS stOf at h ⊢
  by_cases h0 : okP s = false
  · rw [if_pos h0] at h; exact absurd h (by decide)
  rw [if_neg h0] at h ⊢
  have hn : token (nameP s) = true := by
    have : okP s = true := by simpa using h0
    unfold okP at this
    rw [Bool.and_eq_true] at this
    exact this.1
  by_cases h1 : (value (fieldsP s).1 sReason).1 ≠ [] ∧ token (value (fieldsP s).1 sReason).1 = false
  · rw [if_pos h1] at h; exact absurd h (by decide)
  rw [if_neg h1] at h ⊢
  have hr : (value (fieldsP s).1 sReason).1 = [] ∨ token (value (fieldsP s).1 sReason).1 = true := by
    by_cases hq : (value (fieldsP s).1 sReason).1 = []
    · exact .inl hq
    · refine .inr ?_
      cases ht : token (value (fieldsP s).1 sReason).1
      · exact absurd ⟨hq, ht⟩ h1
      · rfl
  by_cases h2 : (value (fieldsP s).1 sExpires).2 = false
  · rw [if_pos h2] at h ⊢
    exact ⟨by rw [low_tok]; exact hn, hll, by show (-1 : Int) ≤ -1; omega, by show (-1 : Int) ≤ 2147483647; omega, hr⟩
  rw [if_neg h2] at h ⊢
  by_cases h3 : (timeS (value (fieldsP s).1 sExpires).1).2 ≠ 0
  · rw [if_pos h3] at h; exact absurd h (by decide)
  rw [if_neg h3]
  have hb := time_bd _ (by simpa using h3)
  exact ⟨by rw [low_tok]; exact hn, hll, by show -1 ≤ (timeS _).1; omega, hb.2, hr⟩

end Go.Proofs.YteiafgoigfehgaaDoor
