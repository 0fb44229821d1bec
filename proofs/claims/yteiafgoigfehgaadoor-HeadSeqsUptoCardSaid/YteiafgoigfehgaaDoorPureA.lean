/-
  Plain laws of layer 1, no program in sight: what is quoted is unquoted, what is escaped is unescaped, a number's digits are its, parts with the sign between are the text.
-/
import Derived.Test.YteiafgoigfehgaaDoorSpecA
namespace Go.Proofs.YteiafgoigfehgaaDoor

theorem unq_qbyte (c : UInt8) : broken c = false → (bare c = true ∧ c.toNat ≠ 92) ∨ (bare c = false ∧ c.toNat ≤ 127) :=
  all_bytes (fun c => broken c = false → (bare c = true ∧ c.toNat ≠ 92) ∨ (bare c = false ∧ c.toNat ≤ 127)) (by decide +kernel) c
theorem unqGo_bare (c : UInt8) (r : List UInt8) (h : bare c = true) (h' : c.toNat ≠ 92) : unqGo (c :: r) = (unqGo r).map (c :: ·) := by
  cases r with
  | nil => simp [unqGo, h]
  | cons d r => rw [unqGo, if_neg h', if_pos h]
theorem unqGo_esc (d : UInt8) (r : List UInt8) (h : broken d = false) (h' : d.toNat ≤ 127) : unqGo (92 :: d :: r) = (unqGo r).map (d :: ·) := by
  rw [unqGo, if_pos (by decide), if_neg]
  rw [h]; simp; omega
theorem unqGo_quote : ∀ l : List UInt8, l.any broken = false → unqGo (l.flatMap qbyte) = some l
  | [], _ => rfl
  | c :: r, h => by
    have h1 : broken c = false ∧ r.any broken = false := by simpa using h
    have ih := unqGo_quote r h1.2
    rw [List.flatMap_cons]
    rcases unq_qbyte c h1.1 with ⟨hb, h92⟩ | ⟨hb, h127⟩
    · rw [qbyte, if_pos hb, List.singleton_append, unqGo_bare c _ hb h92, ih]; rfl
    · rw [qbyte, if_neg (by rw [hb]; decide)]
      show unqGo (92 :: c :: r.flatMap qbyte) = _
      rw [unqGo_esc c _ h1.1 h127, ih]; rfl
theorem unquote_quote (l : List UInt8) (h : (quote l).2 = 0) : unquote (quote l).1 = (l, 0) := by
  unfold quote at *
  cases hb : l.any broken with
  | true => rw [hb] at h; simp at h
  | false =>
    simp only [Bool.false_eq_true, if_false]
    unfold unquote
    rw [if_neg]
    · have e : ((34 :: (l.flatMap qbyte ++ [34])).drop 1).take ((34 :: (l.flatMap qbyte ++ [34])).length - 2) = l.flatMap qbyte := by
        simp
      rw [e, unqGo_quote l hb]; rfl
    · rintro (h | h | h)
      · simp at h; omega
      · exact h rfl
      · apply h
        rw [show (34 :: (l.flatMap qbyte ++ [34]) : List UInt8) = (34 :: l.flatMap qbyte) ++ [34] from rfl, List.getLast?_append]; rfl

theorem esc_hex (c : UInt8) : testc 4 (hexd (c.toNat / 16)) = true ∧ testc 4 (hexd (c.toNat % 16)) = true ∧ UInt8.ofNat (16 * worth (hexd (c.toNat / 16)) + worth (hexd (c.toNat % 16))) = c :=
  all_bytes (fun c => testc 4 (hexd (c.toNat / 16)) = true ∧ testc 4 (hexd (c.toNat % 16)) = true ∧ UInt8.ofNat (16 * worth (hexd (c.toNat / 16)) + worth (hexd (c.toNat % 16))) = c) (by decide +kernel) c
theorem unesc_cons_ne (c : UInt8) (r : List UInt8) (h : c.toNat ≠ 37) : unesc (c :: r) = (unesc r).map (c :: ·) := by
  match r with
  | [] => simp only [unesc, if_neg h]
  | [a] => rw [unesc.eq_def]; simp only [if_neg h]
  | a :: b :: r' => rw [unesc.eq_def]; simp only [if_neg h]
theorem unesc_escape (keep : List UInt8) : ∀ l : List UInt8, unesc (escape l keep) = some l
  | [] => rfl
  | c :: r => by
    have ih := unesc_escape keep r
    unfold escape at *
    rw [List.flatMap_cons]
    by_cases h : c.toNat ≠ 37 ∧ (testc 16 c = true ∨ hasb keep c = true)
    · rw [show ebyte keep c = [c] from if_pos h, List.singleton_append, unesc_cons_ne c _ h.1, ih]; rfl
    · obtain ⟨h1, h2, h3⟩ := esc_hex c
      rw [show ebyte keep c = [37, hexd (c.toNat / 16), hexd (c.toNat % 16)] from if_neg h]
      show unesc (37 :: hexd (c.toNat / 16) :: hexd (c.toNat % 16) :: r.flatMap (ebyte keep)) = _
      rw [unesc, if_pos (by decide), h1, h2]
      simp only [Bool.and_true, if_true]
      rw [ih, h3]; rfl
theorem unescape_escape (l keep : List UInt8) : unescape (escape l keep) = (l, 0) := by
  unfold unescape; rw [unesc_escape]; rfl

theorem numGo_append (most : Int) : ∀ (xs ys : List UInt8) (a : Int), (numGo most xs a).2 = 0 → numGo most (xs ++ ys) a = numGo most ys (numGo most xs a).1
  | [], _, _, _ => rfl
  | c :: r, ys, a, h => by
    rw [List.cons_append, numGo]
    rw [numGo] at h
    split at h
    · simp at h
    · rename_i hc
      rw [if_neg hc, numGo_append most r ys _ h, numGo, if_neg hc]
theorem dig_val (n : Nat) (h : n < 10) : ((dig n).toNat : Int) - 48 = n := by
  have := (by decide : ∀ n : Fin 10, ((dig n.val).toNat : Int) - 48 = n.val)
  exact this ⟨n, h⟩
theorem dig_digit (n : Nat) (h : n < 10) : testc 1 (dig n) = true := by
  have := (by decide : ∀ n : Fin 10, testc 1 (dig n.val) = true)
  exact this ⟨n, h⟩
theorem numGo_dig (most : Int) : ∀ (f m : Nat), m < 10 ^ f → 0 < f → (m : Int) ≤ most → numGo most (digF f m) 0 = ((m : Int), 0)
  | 0, _, _, h, _ => absurd h (by decide)
  | f + 1, m, hm, _, hmost => by
    by_cases h : m < 10
    · rw [digF, if_pos h, numGo, dig_val m h, if_neg (by omega), numGo]
      simp
    · have hf : 0 < f := by
        rcases Nat.eq_zero_or_pos f with h0 | h0
        · subst h0; simp at hm; omega
        · exact h0
      have hd : m / 10 < 10 ^ f := Nat.div_lt_of_lt_mul (by rw [Nat.mul_comm]; exact hm)
      have ih := numGo_dig most f (m / 10) hd hf (by omega)
      rw [digF, if_neg h, numGo_append most _ _ _ (by rw [ih]), ih, numGo, dig_val (m % 10) (by omega), if_neg (by omega), numGo]
      congr 1; omega
theorem digF_ne : ∀ (f n : Nat), 0 < f → digF f n ≠ []
  | 0, _, h => absurd h (by decide)
  | f + 1, n, _ => by
    unfold digF; split
    · simp
    · simp
theorem digF_all : ∀ (f n : Nat), allc 1 (digF f n) = true
  | 0, _ => rfl
  | f + 1, n => by
    unfold digF; split
    · rename_i h; simp [allc, dig_digit n h]
    · have := digF_all f (n / 10)
      unfold allc at *
      rw [List.all_append, this]; simp [dig_digit (n % 10) (by omega)]
theorem number_digits (n : Int) (h0 : 0 ≤ n) (h1 : n ≤ 9223372036854775807) : number (digits n) n = (n, 0) := by
  unfold digits
  rw [if_neg (by omega)]
  unfold number
  rw [if_neg]
  · have := numGo_dig n 20 n.toNat (by omega) (by decide) (by omega)
    rw [this]; congr 1; omega
  · rintro (h | h)
    · exact digF_ne 20 _ (by decide) h
    · rw [digF_all] at h; cases h

theorem pgo_esc (sep : UInt8) (a : Bool) (cur : List UInt8) (c : UInt8) (r : List UInt8) (hc : c.toNat = 92) :
    partsGo sep true a cur (c :: r) = match r with | [] => [cur ++ [c]] | d :: r' => partsGo sep true a (cur ++ [c, d]) r' := by
  rw [partsGo.eq_def]; simp only [hc, and_self, if_true]
  cases r <;> rfl
theorem pgo_cons (sep : UInt8) (q a : Bool) (cur : List UInt8) (c : UInt8) (r : List UInt8) (h : ¬ (q = true ∧ c.toNat = 92)) :
    partsGo sep q a cur (c :: r) = if c.toNat = 34 then partsGo sep (!q) a (cur ++ [c]) r
    else if q = true then partsGo sep q a (cur ++ [c]) r
    else if c.toNat = 60 then partsGo sep q true (cur ++ [c]) r
    else if c.toNat = 62 then partsGo sep q false (cur ++ [c]) r
    else if c.toNat = sep.toNat ∧ a = false then cur :: partsGo sep q a [] r
    else partsGo sep q a (cur ++ [c]) r := by
  rw [partsGo.eq_def]; simp only [if_neg h]
theorem partsGo_ne' (sep : UInt8) : ∀ (n : Nat) (l : List UInt8) (q a : Bool) (cur : List UInt8), l.length ≤ n → partsGo sep q a cur l ≠ []
  | _, [], q, a, cur, _ => by simp [partsGo]
  | 0, c :: r, q, a, cur, h => by simp at h
  | n + 1, c :: r, q, a, cur, h => by
    have hr : r.length ≤ n := by simpa using h
    by_cases hA : q = true ∧ c.toNat = 92
    · obtain ⟨rfl, h92⟩ := hA
      rw [pgo_esc sep a cur c r h92]
      cases r with
      | nil => simp
      | cons d r' => exact partsGo_ne' sep n r' _ _ _ (by simp at hr; omega)
    · rw [pgo_cons sep q a cur c r hA]
      repeat' split
      all_goals first | exact partsGo_ne' sep n r _ _ _ hr | simp
theorem partsGo_ne (sep : UInt8) (l : List UInt8) (q a : Bool) (cur : List UInt8) : partsGo sep q a cur l ≠ [] := partsGo_ne' sep l.length l q a cur (Nat.le_refl _)
theorem glue_cons (sep x : List UInt8) (l : List (List UInt8)) (h : l ≠ []) : glue sep (x :: l) = x ++ (sep ++ glue sep l) := by
  cases l with
  | nil => exact absurd rfl h
  | cons y r => rfl
theorem glue_parts' (sep : UInt8) : ∀ (n : Nat) (l : List UInt8) (q a : Bool) (cur : List UInt8), l.length ≤ n → glue [sep] (partsGo sep q a cur l) = cur ++ l
  | _, [], q, a, cur, _ => by simp [partsGo, glue]
  | 0, c :: r, q, a, cur, h => by simp at h
  | n + 1, c :: r, q, a, cur, h => by
    have hr : r.length ≤ n := by simpa using h
    by_cases hA : q = true ∧ c.toNat = 92
    · obtain ⟨rfl, h92⟩ := hA
      rw [pgo_esc sep a cur c r h92]
      cases r with
      | nil => simp [glue]
      | cons d r' => show glue [sep] (partsGo sep true a (cur ++ [c, d]) r') = _; rw [glue_parts' sep n r' _ _ _ (by simp at hr; omega)]; simp
    · rw [pgo_cons sep q a cur c r hA]
      by_cases h1 : c.toNat = 34
      · rw [if_pos h1, glue_parts' sep n r _ _ _ hr]; simp
      by_cases h2 : q = true
      · rw [if_neg h1, if_pos h2, glue_parts' sep n r _ _ _ hr]; simp
      by_cases h3 : c.toNat = 60
      · rw [if_neg h1, if_neg h2, if_pos h3, glue_parts' sep n r _ _ _ hr]; simp
      by_cases h4 : c.toNat = 62
      · rw [if_neg h1, if_neg h2, if_neg h3, if_pos h4, glue_parts' sep n r _ _ _ hr]; simp
      by_cases h5 : c.toNat = sep.toNat ∧ a = false
      · rw [if_neg h1, if_neg h2, if_neg h3, if_neg h4, if_pos h5, glue_cons _ _ _ (partsGo_ne sep _ _ _ _), glue_parts' sep n r _ _ _ hr]
        have : c = sep := UInt8.toNat_inj.1 h5.1
        rw [this]; simp
      · rw [if_neg h1, if_neg h2, if_neg h3, if_neg h4, if_neg h5, glue_parts' sep n r _ _ _ hr]; simp
theorem glue_parts (sep : UInt8) (l : List UInt8) : glue [sep] (parts l sep) = l := glue_parts' sep l.length l false false [] (Nat.le_refl _)

theorem partsGo_plain (sep : UInt8) (c : UInt8) (r cur : List UInt8) (h1 : c.toNat ≠ 34) (h2 : c.toNat ≠ 60) (h3 : c.toNat ≠ 62) :
    partsGo sep false false cur (c :: r) = if c.toNat = sep.toNat then cur :: partsGo sep false false [] r else partsGo sep false false (cur ++ [c]) r := by
  rw [partsGo.eq_def]; simp [h1, h2, h3]
/-- no quotes, no angles -/
def plainText (l : List UInt8) : Bool := l.all fun c => c.toNat != 34 && c.toNat != 60 && c.toNat != 62
theorem parts_pieces (sep : UInt8) (b : List UInt8) (hs : sep.toNat ≠ 34 ∧ sep.toNat ≠ 60 ∧ sep.toNat ≠ 62) : ∀ (a cur : List UInt8), plainText a = true →
    partsGo sep false false cur (a ++ sep :: b) = partsGo sep false false cur a ++ partsGo sep false false [] b
  | [], cur, _ => by
    rw [List.nil_append, partsGo_plain sep sep b cur hs.1 hs.2.1 hs.2.2, if_pos rfl]
    rfl
  | c :: r, cur, h => by
    have h' : (c.toNat ≠ 34 ∧ c.toNat ≠ 60 ∧ c.toNat ≠ 62) ∧ plainText r = true := by
      unfold plainText at h; rw [List.all_cons] at h; simp at h; exact ⟨⟨h.1.1.1, h.1.1.2, h.1.2⟩, by unfold plainText; simpa using h.2⟩
    obtain ⟨⟨p1, p2, p3⟩, hr⟩ := h'
    rw [List.cons_append, partsGo_plain sep c _ cur p1 p2 p3, partsGo_plain sep c r cur p1 p2 p3]
    split
    · rw [parts_pieces sep b hs r [] hr]; rfl
    · rw [parts_pieces sep b hs r _ hr]

theorem trim_le (l : List UInt8) : (trim l).length ≤ l.length := by
  unfold trim trimR trimL
  rw [List.length_reverse]
  refine Nat.le_trans (List.dropWhile_sublist _).length_le ?_
  rw [List.length_reverse]
  exact (List.dropWhile_sublist _).length_le


end Go.Proofs.YteiafgoigfehgaaDoor
