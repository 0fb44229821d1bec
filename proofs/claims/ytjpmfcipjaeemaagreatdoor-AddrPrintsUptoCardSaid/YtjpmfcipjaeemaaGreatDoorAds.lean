/-
  Addresses: the plain spec (chapter 5), and the plain laws of reading back what was written.
-/
import Derived.Test.YtjpmfcipjaeemaaGreatDoorUrs
namespace Go.Proofs.YtjpmfcipjaeemaaGreatDoor

structure Adr where
  disp : List UInt8
  uri : Uri
  ps : List Prm
deriving DecidableEq
def adr0 : Adr := ⟨[], uri0, []⟩
def nTag : List UInt8 := [116, 97, 103]
def checkA (a : Adr) : Int := if (quote a.disp).2 ≠ 0 ∨ 64 < a.disp.length then 50 else if checkU a.uri ≠ 0 then checkU a.uri else (textS a.ps).2
def nameT (d : List UInt8) : List UInt8 := if d = [] then [] else (quote d).1 ++ [32]
def textA (a : Adr) : List UInt8 := nameT a.disp ++ 60 :: (textU a.uri ++ 62 :: (textS a.ps).1)
def printA (a : Adr) : List UInt8 × Int := if checkA a = 0 then (textA a, 0) else ([], checkA a)
/-- the words between blanks -/
def wordsGo : List UInt8 → List UInt8 → List (List UInt8)
  | cur, [] => if cur = [] then [] else [cur]
  | cur, c :: r => if blank c = true then (if cur = [] then wordsGo [] r else cur :: wordsGo [] r) else wordsGo (cur ++ [c]) r
def dispb (c : UInt8) : Bool := blank c || testc 8 c
def dispT (t : List UInt8) : Option (List UInt8) :=
  if opens 34 t = true then (if (unquote t).2 = 0 then some (unquote t).1 else none)
  else if t.all dispb = true then some (glue [32] (wordsGo [] t)) else none
def displayS (l : List UInt8) : Option (List UInt8) := dispT (trim l)
/-- where the first angle stands that is not quoted; below 0: there is none -/
def angGo : Bool → List UInt8 → Int → Int
  | _, [], _ => -1
  | q, c :: r, k =>
    if q = true ∧ c.toNat = 92 then
      match r with
      | [] => -1
      | _ :: r' => angGo q r' (k + 2)
    else if c.toNat = 34 then angGo (!q) r (k + 1)
    else if q = false ∧ c.toNat = 60 then k
    else angGo q r (k + 1)
def angS (l : List UInt8) : Int := angGo false l 0
def barb (c : UInt8) : Bool := c.toNat == 63 || c.toNat == 44 || c.toNat == 34
def endA (d : List UInt8) (u : Uri × Int) (h : List UInt8) (f : List Prm × Int) : Adr × Int :=
  if u.2 ≠ 0 then (adr0, u.2) else if trim h ≠ [] then (adr0, 50) else if f.2 ≠ 0 then (adr0, f.2) else (⟨d, u.1, f.1⟩, 0)
def parseA2 (d wh bh : List UInt8) : Adr × Int := endA d (parseU wh) ((parts bh 59).headD []) (fieldsS (parts bh 59).tail)
def parseN (d : Option (List UInt8)) (c : List UInt8 × List UInt8 × Bool) : Adr × Int :=
  match d with
  | none => (adr0, 50)
  | some d => if 64 < d.length ∨ c.2.2 = false then (adr0, 50) else parseA2 d c.1 c.2.1
def parseB (s wh : List UInt8) : Adr × Int := if wh.any barb = true then (adr0, 50) else parseA2 [] wh (s.drop (cutb 59 s).1.length)
def parseA1 (s : List UInt8) : Adr × Int :=
  if 0 ≤ angS s then parseN (displayS (s.take (angS s).toNat)) (cutb 62 (s.drop ((angS s).toNat + 1)))
  else parseB s (trim (cutb 59 s).1)
def parseA (l : List UInt8) : Adr × Int := parseA1 (trim l)
def adrsGo (L : List Adr) : List (List UInt8) → List Adr × Int
  | [] => (L, 0)
  | x :: r => if (parseA x).2 ≠ 0 then ([], (parseA x).2) else adrsGo (L ++ [(parseA x).1]) r
def listA (l : List UInt8) : List Adr × Int := if 16 < (parts l 44).length then ([], 4) else adrsGo [] (parts l 44)
def tagA (a : Adr) : List UInt8 := (value a.ps nTag).1

theorem ang_cons (q : Bool) (c : UInt8) (r : List UInt8) (k : Int) (h : ¬ (q = true ∧ c.toNat = 92)) : angGo q (c :: r) k = if c.toNat = 34 then angGo (!q) r (k + 1) else if q = false ∧ c.toNat = 60 then k else angGo q r (k + 1) := by
  cases r <;> (rw [angGo.eq_def]; dsimp only; rw [if_neg h])
theorem ang_esc (c d : UInt8) (r : List UInt8) (k : Int) (h : c.toNat = 92) : angGo true (c :: d :: r) k = angGo true r (k + 2) := by
  rw [angGo.eq_def]; dsimp only; rw [if_pos ⟨rfl, h⟩]
theorem ang_skip : ∀ (l x : List UInt8) (k : Int), l.any broken = false → angGo true (l.flatMap qbyte ++ x) k = angGo true x (k + ((l.flatMap qbyte).length : Int))
  | [], x, k, _ => by simp
  | c :: r, x, k, h => by
    rw [List.any_cons, Bool.or_eq_false_iff] at h
    have ih := ang_skip r x
    rw [List.flatMap_cons]
    unfold qbyte
    cases hb : bare c
    · rw [if_neg (by decide)]
      show angGo true (92 :: c :: (r.flatMap qbyte ++ x)) k = _
      rw [ang_esc 92 c _ k (by decide), ih _ h.2, List.length_append]
      show angGo true x (k + 2 + ((r.flatMap qbyte).length : Int)) = angGo true x (k + ((2 + (r.flatMap qbyte).length : Nat) : Int))
      congr 1; omega
    · rw [if_pos rfl]
      have hq : c.toNat ≠ 92 ∧ c.toNat ≠ 34 := by
        unfold bare at hb
        simp only [Bool.and_eq_true, bne_iff_ne] at hb
        exact ⟨hb.1.1.2, hb.1.1.1⟩
      show angGo true (c :: (r.flatMap qbyte ++ x)) k = _
      rw [ang_cons _ _ _ _ (fun h => hq.1 h.2), if_neg hq.2, if_neg (fun h => by cases h.1), ih _ h.2, List.length_append]
      show angGo true x (k + 1 + ((r.flatMap qbyte).length : Int)) = angGo true x (k + ((1 + (r.flatMap qbyte).length : Nat) : Int))
      congr 1; omega
theorem ang_name (d x : List UInt8) (h : (quote d).2 = 0) : angS (nameT d ++ 60 :: x) = ((nameT d).length : Int) := by
  unfold nameT angS
  split
  · rw [List.nil_append, ang_cons _ _ _ _ (fun h => by cases h.1), if_neg (by decide), if_pos ⟨rfl, by decide⟩]; rfl
  · obtain ⟨h1, h2⟩ := quote_okB d (by rw [h]; rfl)
    rw [h2]
    show angGo false (34 :: (((d.flatMap qbyte ++ [34]) ++ [32]) ++ 60 :: x)) 0 = _
    rw [ang_cons _ _ _ _ (fun h => by cases h.1), if_pos (by decide), List.append_assoc, List.append_assoc, show (!false) = true from rfl, ang_skip d _ _ h1]
    show angGo true (34 :: 32 :: 60 :: x) _ = _
    rw [ang_cons _ _ _ _ (fun h => absurd h.2 (by decide)), if_pos (by decide), show (!true) = false from rfl, ang_cons _ _ _ _ (fun h => by cases h.1), if_neg (by decide), if_neg (fun h => absurd h.2 (by decide)), ang_cons _ _ _ _ (fun h => by cases h.1), if_neg (by decide), if_pos ⟨rfl, by decide⟩]
    simp; omega
theorem quote_last (d : List UInt8) (h : (quote d).2 = 0) : (quote d).1.head? = some 34 ∧ (quote d).1.getLast? = some 34 ∧ (quote d).1 ≠ [] := by
  obtain ⟨_, h2⟩ := quote_okB d (by rw [h]; rfl)
  rw [h2]
  refine ⟨rfl, ?_, by simp⟩
  rw [← List.cons_append, List.getLast?_concat]
theorem display_name (d : List UInt8) (h : (quote d).2 = 0) : displayS (nameT d) = some d := by
  unfold nameT
  split
  · rename_i hd; rw [hd]; rfl
  · obtain ⟨q1, q2, q3⟩ := quote_last d h
    have ht : trim ((quote d).1 ++ [32]) = (quote d).1 := by
      have := trim_mid [] (quote d).1 [32] rfl (by decide +kernel) (fun c hc => by rw [q1] at hc; injection hc with hc; rw [← hc]; decide +kernel) (fun c hc => by rw [q2] at hc; injection hc with hc; rw [← hc]; decide +kernel) q3
      simpa using this
    unfold displayS dispT
    rw [ht]
    have ho : opens 34 (quote d).1 = true := by
      cases hq : (quote d).1 with
      | nil => exact absurd hq q3
      | cons a r => rw [hq] at q1; injection q1 with q1; subst q1; rfl
    rw [if_pos ho, unquote_quote d h, if_pos rfl]
theorem checkA_parts (a : Adr) (h : checkA a = 0) : (quote a.disp).2 = 0 ∧ a.disp.length ≤ 64 ∧ checkU a.uri = 0 ∧ (textS a.ps).2 = 0 := by
  unfold checkA at h
  split at h
  · exact absurd h (by decide)
  · rename_i h1
    split at h
    · rename_i h2; exact absurd h h2
    · rename_i h2
      by_cases hq : (quote a.disp).2 = 0
      · refine ⟨hq, ?_, ?_, h⟩
        · by_cases hl : 64 < a.disp.length
          · exact absurd (.inr hl) h1
          · omega
        · by_cases hc : checkU a.uri = 0
          · exact hc
          · exact absurd hc h2
      · exact absurd (.inl hq) h1
theorem textA_ends (a : Adr) (h : checkA a = 0) : (∀ c, (textA a).head? = some c → blank c = false) ∧ (∀ c, (textA a).getLast? = some c → blank c = false) ∧ textA a ≠ [] := by
  obtain ⟨h1, _, _, h4⟩ := checkA_parts a h
  obtain ⟨_, htx⟩ := textS_ok a.ps h4
  have hlast := text_last _ _ _ htx
  refine ⟨fun c hc => ?_, fun c hc => ?_, ?_⟩
  · unfold textA nameT at hc
    split at hc
    · have : c = 60 := by simpa using hc.symm
      rw [this]; decide +kernel
    · obtain ⟨q1, _, q3⟩ := quote_last a.disp h1
      cases hq : (quote a.disp).1 with
      | nil => exact absurd hq q3
      | cons x r =>
        rw [hq] at q1 hc
        injection q1 with q1
        have : c = x := by simpa using hc.symm
        rw [this, q1]; decide +kernel
  · unfold textA at hc
    rw [show nameT a.disp ++ 60 :: (textU a.uri ++ 62 :: (textS a.ps).1) = (nameT a.disp ++ 60 :: (textU a.uri ++ [62])) ++ (textS a.ps).1 from by simp, List.getLast?_append] at hc
    cases hl : (textS a.ps).1.getLast? with
    | some d => rw [hl] at hc; injection hc with hc; rw [← hc]; exact hlast d hl
    | none =>
      rw [hl] at hc
      rw [show nameT a.disp ++ 60 :: (textU a.uri ++ [62]) = (nameT a.disp ++ 60 :: textU a.uri) ++ [62] from by simp, List.getLast?_concat] at hc
      have : c = 62 := by simpa using hc.symm
      rw [this]; decide +kernel
  · unfold textA
    simp
theorem textA_trim (a : Adr) (h : checkA a = 0) (x y : List UInt8) (hx : x.all blank = true) (hy : y.all blank = true) : trim (x ++ textA a ++ y) = textA a := by
  obtain ⟨h1, h2, h3⟩ := textA_ends a h
  exact trim_mid x (textA a) y hx hy h1 h2 h3
/-- AN ADDRESS THAT IS WRITTEN IS READ AS IT WAS -/
theorem parseA1_text (a : Adr) (h : checkA a = 0) : parseA1 (textA a) = (a, 0) := by
  obtain ⟨h1, h2, h3, h4⟩ := checkA_parts a h
  obtain ⟨_, htx⟩ := textS_ok a.ps h4
  have ha : angS (textA a) = ((nameT a.disp).length : Int) := ang_name _ _ h1
  have htk : (textA a).take (nameT a.disp).length = nameT a.disp := List.take_left' rfl
  have hdr : (textA a).drop ((nameT a.disp).length + 1) = textU a.uri ++ 62 :: (textS a.ps).1 := by
    unfold textA
    rw [show nameT a.disp ++ 60 :: (textU a.uri ++ 62 :: (textS a.ps).1) = (nameT a.disp ++ [60]) ++ (textU a.uri ++ 62 :: (textS a.ps).1) from by simp, List.drop_left' (by simp)]
  have hc : cutb 62 (textU a.uri ++ 62 :: (textS a.ps).1) = (textU a.uri, (textS a.ps).1, true) := cutb_of 62 _ _ (textU_no a.uri h3 62 (.inl rfl))
  have hp : parts (textS a.ps).1 59 = [] :: a.ps.map ptail := parts_text _ _ [] _ htx
  unfold parseA1
  rw [ha, if_pos (by omega), show (((nameT a.disp).length : Int)).toNat = (nameT a.disp).length from by omega, htk, hdr, hc, display_name _ h1]
  unfold parseN
  dsimp only
  rw [if_neg (by rintro (h | h); omega; cases h)]
  unfold parseA2
  rw [hp, parseU_text a.uri h3]
  show endA a.disp (a.uri, 0) [] (fieldsS (a.ps.map ptail)) = _
  rw [fieldsS_text _ h4]
  unfold endA
  rw [if_neg (fun h => h rfl), if_neg (fun h => h rfl), if_neg (fun h => h rfl)]
theorem parseA_text (a : Adr) (h : checkA a = 0) : parseA (textA a) = (a, 0) := by
  unfold parseA
  have := textA_trim a h [] [] rfl rfl
  rw [List.nil_append, List.append_nil] at this
  rw [this]
  exact parseA1_text a h
theorem unqGo_ok : ∀ (l r : List UInt8), unqGo l = some r → r.any broken = false
  | [], r, h => by rw [unqGo] at h; injection h with h; rw [← h]; rfl
  | [c], r, h => by
    rw [unqGo] at h
    split at h
    · rename_i hb
      injection h with h
      rw [← h, List.any_cons, List.any_nil, Bool.or_false]
      exact bare_broken c hb
    · cases h
  | c :: d :: r, x, h => by
    rw [unqGo] at h
    split at h
    · split at h
      · cases h
      · rename_i hd
        obtain ⟨y, hy, rfl⟩ := Option.map_eq_some_iff.1 h
        rw [List.any_cons, unqGo_ok r y hy, Bool.or_false]
        simp only [Bool.or_eq_true, not_or] at hd
        simpa using hd.1
    · split at h
      · rename_i hb
        obtain ⟨y, hy, rfl⟩ := Option.map_eq_some_iff.1 h
        rw [List.any_cons, unqGo_ok (d :: r) y hy, Bool.or_false]
        exact bare_broken c hb
      · cases h
where
  bare_broken (c : UInt8) (h : bare c = true) : broken c = false := by
    have := all_bytes (fun c => bare c = true → broken c = false) (by decide +kernel) c
    exact this h
theorem quote_of (l : List UInt8) (h : l.any broken = false) : (quote l).2 = 0 := by
  unfold quote
  rw [h, if_neg (by decide)]
theorem unquote_ok0 (l : List UInt8) (h : (unquote l).2 = 0) : (quote (unquote l).1).2 = 0 := by
  unfold unquote at h ⊢
  split
  · rename_i h1; rw [if_pos h1] at h; exact absurd h (by decide)
  · rename_i h1
    rw [if_neg h1] at h
    cases hu : unqGo ((l.drop 1).take (l.length - 2)) with
    | none => rw [hu] at h; exact absurd h (by decide)
    | some r => exact quote_of _ (unqGo_ok _ _ hu)
theorem words_broken : ∀ (l cur : List UInt8), l.all dispb = true → (∀ c ∈ cur, broken c = false) → ∀ w ∈ wordsGo cur l, ∀ c ∈ w, broken c = false
  | [], cur, _, hc => by
    intro w hw
    rw [wordsGo] at hw
    split at hw
    · cases hw
    · rw [List.mem_singleton] at hw; subst hw; exact hc
  | c :: r, cur, h, hc => by
    rw [List.all_cons, Bool.and_eq_true] at h
    intro w hw
    rw [wordsGo] at hw
    have h0 : ∀ c ∈ ([] : List UInt8), broken c = false := fun c hc => by cases hc
    split at hw
    · split at hw
      · exact words_broken r [] h.2 h0 w hw
      · rcases List.mem_cons.1 hw with rfl | hw
        · exact hc
        · exact words_broken r [] h.2 h0 w hw
    · refine words_broken r (cur ++ [c]) h.2 (fun d hd => ?_) w hw
      rcases List.mem_append.1 hd with hd | hd
      · exact hc d hd
      · rw [List.mem_singleton] at hd
        subst hd
        have := all_bytes (fun c => dispb c = true → broken c = false) (by decide +kernel) d
        exact this h.1
theorem glue_mem (sep : List UInt8) : ∀ (L : List (List UInt8)), ∀ c ∈ glue sep L, (∃ w ∈ L, c ∈ w) ∨ c ∈ sep
  | [], c, h => by cases h
  | [x], c, h => .inl ⟨x, List.mem_cons_self .., h⟩
  | x :: y :: r, c, h => by
    rw [glue] at h
    rcases List.mem_append.1 h with h | h
    · exact .inl ⟨x, List.mem_cons_self .., h⟩
    · rcases List.mem_append.1 h with h | h
      · exact .inr h
      · rcases glue_mem sep (y :: r) c h with ⟨w, hw, hc⟩ | h
        · exact .inl ⟨w, List.mem_cons_of_mem _ hw, hc⟩
        · exact .inr h
theorem display_ok (l d : List UInt8) (h : displayS l = some d) : (quote d).2 = 0 := by
  unfold displayS dispT at h
  split at h
  · split at h
    · rename_i hu; injection h with h; rw [← h]; exact unquote_ok0 _ hu
    · cases h
  · split at h
    · rename_i ha
      injection h with h
      refine quote_of _ ?_
      rw [List.any_eq_false]
      intro c hc
      rw [← h] at hc
      rcases glue_mem _ _ c hc with ⟨w, hw, hcw⟩ | hc
      · rw [words_broken _ [] ha (fun c hc => by cases hc) w hw c hcw]; decide
      · rw [List.mem_singleton] at hc; subst hc; decide +kernel
    · cases h
theorem endA_ok (d : List UInt8) (wh h : List UInt8) (Ps : List (List UInt8)) (hd : (quote d).2 = 0) (hl : d.length ≤ 64) :
    ((endA d (parseU wh) h (fieldsS Ps)).2 = 0 → checkA (endA d (parseU wh) h (fieldsS Ps)).1 = 0) ∧ ((endA d (parseU wh) h (fieldsS Ps)).2 ≠ 0 → (endA d (parseU wh) h (fieldsS Ps)).1 = adr0) := by
  unfold endA
  by_cases h1 : (parseU wh).2 = 0
  · rw [if_neg (fun x => x h1)]
    by_cases h2 : trim h = []
    · rw [if_neg (fun x => x h2)]
      by_cases h3 : (fieldsS Ps).2 = 0
      · rw [if_neg (fun x => x h3)]
        refine ⟨fun _ => ?_, fun x => absurd rfl x⟩
        unfold checkA
        dsimp only
        have hu := (parseU_ok wh).1 h1
        rw [if_neg (by rintro (x | x); exact x hd; omega), if_neg (fun x => x hu)]
        exact fields_textS Ps h3
      · rw [if_pos h3]; exact ⟨fun x => absurd x h3, fun _ => rfl⟩
    · rw [if_pos h2]; exact ⟨fun x => absurd x (by decide), fun _ => rfl⟩
  · rw [if_pos h1]; exact ⟨fun x => absurd x h1, fun _ => rfl⟩
/-- WHAT IS READ MAY BE WRITTEN, AND WHAT IS NOT READ IS NO ADDRESS -/
theorem parseA_ok (l : List UInt8) : ((parseA l).2 = 0 → checkA (parseA l).1 = 0) ∧ ((parseA l).2 ≠ 0 → (parseA l).1 = adr0) := by
  have bad : ((adr0, (50 : Int)).2 = 0 → checkA (adr0, (50 : Int)).1 = 0) ∧ ((adr0, (50 : Int)).2 ≠ 0 → (adr0, (50 : Int)).1 = adr0) := ⟨fun h => absurd h (by decide), fun _ => rfl⟩
  unfold parseA parseA1
  split
  · unfold parseN
    cases hd : displayS ((trim l).take (angS (trim l)).toNat) with
    | none => exact bad
    | some d =>
      dsimp only
      split
      · exact bad
      · rename_i h1
        exact endA_ok d _ _ _ (display_ok _ _ hd) (by
          by_cases hl : 64 < d.length
          · exact absurd (.inl hl) h1
          · omega)
  · unfold parseB
    split
    · exact bad
    · exact endA_ok [] _ _ _ rfl (Nat.zero_le _)
theorem nameT_le (d : List UInt8) (h : d.length ≤ 64) : (nameT d).length ≤ 140 := by
  unfold nameT
  have := quote_le d
  split <;> simp <;> omega
theorem textA_le (a : Adr) (h : checkA a = 0) : (textA a).length ≤ 18000 := by
  obtain ⟨_, h2, h3, _⟩ := checkA_parts a h
  have e1 := nameT_le a.disp h2
  have e2 := textU_le a.uri h3
  have e3 := textS_le a.ps
  unfold textA
  rw [List.length_append, List.length_cons, List.length_append, List.length_cons]
  omega
/-- inside angles nothing is cut -/
theorem parts_angle (sep : UInt8) : ∀ (l cur x : List UInt8), (∀ c ∈ l, c.toNat ≠ 62 ∧ c.toNat ≠ 60 ∧ c.toNat ≠ 34) → partsGo sep false true cur (l ++ x) = partsGo sep false true (cur ++ l) x
  | [], cur, x, _ => by simp
  | c :: r, cur, x, h => by
    obtain ⟨h1, h2, h3⟩ := h c (List.mem_cons_self ..)
    rw [List.cons_append, pgo_cons sep false true cur c _ (fun h => by cases h.1), if_neg h3, if_neg (by decide), if_neg h2, if_neg h1, if_neg (fun h => by cases h.2), parts_angle sep r _ x (fun d hd => h d (List.mem_cons_of_mem _ hd))]
    simp
theorem textA_quiet (a : Adr) (h : checkA a = 0) (cur x : List UInt8) : partsGo 44 false false cur (textA a ++ x) = partsGo 44 false false (cur ++ textA a) x := by
  obtain ⟨h1, h2, h3, h4⟩ := checkA_parts a h
  obtain ⟨_, htx⟩ := textS_ok a.ps h4
  have hn : partsGo 44 false false cur (nameT a.disp ++ (60 :: (textU a.uri ++ 62 :: ((textS a.ps).1 ++ x)))) = partsGo 44 false false (cur ++ nameT a.disp) (60 :: (textU a.uri ++ 62 :: ((textS a.ps).1 ++ x))) := by
    unfold nameT
    split
    · simp
    · rw [List.append_assoc, parts_quote 44 a.disp _ _ (by rw [h1]; rfl)]
      show partsGo 44 false false _ (32 :: _) = _
      rw [pgo_cons _ _ _ _ _ _ (fun h => by cases h.1), if_neg (by decide), if_neg (by decide), if_neg (by decide), if_neg (by decide), if_neg (fun h => absurd h.1 (by decide))]
      simp
  unfold textA
  rw [show (nameT a.disp ++ 60 :: (textU a.uri ++ 62 :: (textS a.ps).1)) ++ x = nameT a.disp ++ (60 :: (textU a.uri ++ 62 :: ((textS a.ps).1 ++ x))) from by simp, hn]
  rw [pgo_cons _ _ _ _ _ _ (fun h => by cases h.1), if_neg (by decide), if_neg (by decide), if_pos (by decide), parts_angle 44 (textU a.uri) _ _ (fun c hc => ⟨textU_no a.uri h3 62 (.inl rfl) c hc, textU_no a.uri h3 60 (.inr (.inl rfl)) c hc, textU_no a.uri h3 34 (.inr (.inr rfl)) c hc⟩)]
  rw [pgo_cons _ _ _ _ _ _ (fun h => by cases h.1), if_neg (by decide), if_neg (by decide), if_neg (by decide), if_pos (by decide), comma_text _ _ _ _ x htx]
  simp
theorem glueA : ∀ (L : List Adr) (a : Adr) (cur : List UInt8), cur.all blank = true → checkA a = 0 → (∀ b ∈ L, checkA b = 0) →
    ∃ R, partsGo 44 false false cur (glue [44, 32] ((a :: L).map textA)) = R ∧ R.map trim = (a :: L).map textA
  | [], a, cur, hc, h, _ => by
    refine ⟨_, rfl, ?_⟩
    show (partsGo 44 false false cur (textA a)).map trim = _
    have := textA_quiet a h cur []
    rw [List.append_nil] at this
    rw [this, partsGo]
    show [trim (cur ++ textA a)] = [textA a]
    have := textA_trim a h cur [] hc rfl
    rw [List.append_nil] at this
    rw [this]
  | b :: r, a, cur, hc, h, hL => by
    obtain ⟨R, e1, e2⟩ := glueA r b [32] (by decide +kernel) (hL b (List.mem_cons_self ..)) (fun d hd => hL d (List.mem_cons_of_mem _ hd))
    refine ⟨_, rfl, ?_⟩
    show (partsGo 44 false false cur (textA a ++ ([44, 32] ++ glue [44, 32] ((b :: r).map textA)))).map trim = _
    rw [textA_quiet a h cur _]
    show (partsGo 44 false false _ (44 :: 32 :: glue [44, 32] ((b :: r).map textA))).map trim = _
    rw [pgo_cons _ _ _ _ _ _ (fun h => by cases h.1), if_neg (by decide), if_neg (by decide), if_neg (by decide), if_neg (by decide), if_pos ⟨by decide, rfl⟩]
    rw [pgo_cons _ _ _ _ _ _ (fun h => by cases h.1), if_neg (by decide), if_neg (by decide), if_neg (by decide), if_neg (by decide), if_neg (fun h => absurd h.1 (by decide))]
    rw [show ([] : List UInt8) ++ [32] = [32] from rfl, e1, List.map_cons, e2]
    have := textA_trim a h cur [] hc rfl
    rw [List.append_nil] at this
    rw [this]; rfl
theorem parseA_trim (x y : List UInt8) (h : trim x = trim y) : parseA x = parseA y := by unfold parseA; rw [h]
theorem trim_text (a : Adr) (h : checkA a = 0) : trim (textA a) = textA a := by
  have := textA_trim a h [] [] rfl rfl
  rwa [List.nil_append, List.append_nil] at this
theorem adrs_texts : ∀ (R : List (List UInt8)) (L D : List Adr), R.map trim = L.map textA → (∀ a ∈ L, checkA a = 0) → adrsGo D R = (D ++ L, 0)
  | [], L, D, e, _ => by
    have : L = [] := by
      cases L with
      | nil => rfl
      | cons a r => cases e
    rw [this, List.append_nil]; rfl
  | x :: R, [], D, e, _ => by cases e
  | x :: R, a :: L, D, e, h => by
    rw [List.map_cons, List.map_cons] at e
    injection e with e1 e2
    have ha := h a (List.mem_cons_self ..)
    rw [adrsGo, parseA_trim x (textA a) (by rw [e1, trim_text a ha]), parseA_text a ha, if_neg (fun h => h rfl), adrs_texts R L _ e2 (fun b hb => h b (List.mem_cons_of_mem _ hb))]
    simp
/-- ADDRESSES THAT ARE WRITTEN WITH COMMAS BETWEEN ARE A LIST OF THEM -/
theorem listA_texts (L : List Adr) (h0 : 0 < L.length) (h16 : L.length ≤ 16) (h : ∀ a ∈ L, checkA a = 0) : listA (glue [44, 32] (L.map textA)) = (L, 0) := by
  cases L with
  | nil => cases h0
  | cons a r =>
    obtain ⟨R, e1, e2⟩ := glueA r a [] rfl (h a (List.mem_cons_self ..)) (fun b hb => h b (List.mem_cons_of_mem _ hb))
    have hl : R.length = (a :: r).length := by
      have := congrArg List.length e2
      simpa using this
    unfold listA parts
    rw [e1, if_neg (by omega), adrs_texts R (a :: r) [] e2 h]
    rfl
theorem printA_back (a : Adr) (h : (printA a).2 = 0) : printA a = (textA a, 0) ∧ parseA (textA a) = (a, 0) ∧ checkA a = 0 := by
  unfold printA at h ⊢
  split
  · rename_i hc; exact ⟨rfl, parseA_text a hc, hc⟩
  · rename_i hc; rw [if_neg hc] at h; exact absurd h hc

end Go.Proofs.YtjpmfcipjaeemaaGreatDoor
