/-
  Hops: the plain spec, and the plain laws of chapter 7.
-/
import Derived.Test.YtbljmjbialinkaaDoorVpl
namespace Go.Proofs.YtbljmjbialinkaaDoor

structure Hop where
  host : List UInt8
  port : Int
  ps : List Prm
deriving DecidableEq
def hop0 : Hop := ⟨[], 0, []⟩
def nProto : List UInt8 := [83, 73, 80, 47, 50, 46, 48, 47, 85, 68, 80]
def nCookie : List UInt8 := [122, 57, 104, 71, 52, 98, 75]
def nBranch : List UInt8 := [98, 114, 97, 110, 99, 104]
/-- where a host ends: at a colon outside brackets -/
def endW : Bool → List UInt8 → Nat
  | _, [] => 0
  | i, c :: r => if i = true ∨ c.toNat ≠ 58 then endW (c.toNat == 91 || (i && !(c.toNat == 93))) r + 1 else 0
/-- a host, and a port, if there is one -/
def whereS (l : List UInt8) : (List UInt8 × Int) × Int :=
  if hostS (lowr (l.take (endW false l))) = false then (([], 0), 32)
  else if l.length ≤ endW false l then ((lowr (l.take (endW false l)), 0), 0)
  else if (number (l.drop (endW false l + 1)) 65535).2 = 0 ∧ 0 < (number (l.drop (endW false l + 1)) 65535).1 then ((lowr (l.take (endW false l)), (number (l.drop (endW false l + 1)) 65535).1), 0)
  else (([], 0), 33)
/-- the place of the first blank; below 0: there is none -/
def fstB : List UInt8 → Int
  | [] => -1
  | c :: r => if blank c = true then 0 else if fstB r = -1 then -1 else fstB r + 1
def checkV (v : Hop) : Int := if hostS v.host = false then 32 else if v.port < 0 ∨ 65535 < v.port then 33 else (textS v.ps).2
def portT (p : Int) : List UInt8 := if 0 < p then 58 :: digits p else []
def textV (v : Hop) : List UInt8 := nProto ++ 32 :: (v.host ++ (portT v.port ++ (textS v.ps).1))
def printV (v : Hop) : List UInt8 × Int := if checkV v = 0 then (textV v, 0) else ([], checkV v)
def endV (a : (List UInt8 × Int) × Int) (f : List Prm × Int) : Hop × Int :=
  if a.2 ≠ 0 then (hop0, a.2) else if f.2 ≠ 0 then (hop0, f.2) else (⟨a.1.1, a.1.2, f.1⟩, 0)
def parse1 (t : List UInt8) : Hop × Int :=
  if 0 ≤ fstB t ∧ same (t.take (fstB t).toNat) nProto = true then
    endV (whereS (trim ((parts (t.drop (fstB t).toNat) 59).headD []))) (fieldsS (parts (t.drop (fstB t).toNat) 59).tail)
  else (hop0, 70)
def parseV (l : List UInt8) : Hop × Int := parse1 (trim l)
def hopsGo (L : List Hop) : List (List UInt8) → List Hop × Int
  | [] => (L, 0)
  | x :: r => if (parseV x).2 ≠ 0 then ([], (parseV x).2) else if 16 ≤ L.length then ([], 4) else hopsGo (L ++ [(parseV x).1]) r
def listV (vals : List (List UInt8)) : List Hop × Int :=
  if (hopsGo [] (vals.flatMap fun v => parts v 44)).2 ≠ 0 then ([], (hopsGo [] (vals.flatMap fun v => parts v 44)).2)
  else if (hopsGo [] (vals.flatMap fun v => parts v 44)).1 = [] then ([], 100) else hopsGo [] (vals.flatMap fun v => parts v 44)
def branchV (v : Hop) : List UInt8 × Bool :=
  if (nCookie.isPrefixOf (value v.ps nBranch).1 && decide (7 < (value v.ps nBranch).1.length)) = true then ((value v.ps nBranch).1, true) else ([], false)
def byV (v : Hop) : List UInt8 := v.host ++ 58 :: digits (if v.port = 0 then 5060 else v.port)

theorem fst_none : ∀ l : List UInt8, l.any blank = false → fstB l = -1
  | [], _ => rfl
  | c :: r, h => by
    rw [List.any_cons, Bool.or_eq_false_iff] at h
    rw [fstB, if_neg (by rw [h.1]; decide), fst_none r h.2, if_pos rfl]
theorem fst_ge : ∀ l : List UInt8, -1 ≤ fstB l
  | [] => by decide
  | c :: r => by
    have := fst_ge r
    rw [fstB]
    split
    · decide
    · split
      · decide
      · omega
theorem fst_at : ∀ (a : List UInt8) (c : UInt8) (r : List UInt8), a.any blank = false → blank c = true → fstB (a ++ c :: r) = (a.length : Int)
  | [], c, r, _, h => by rw [List.nil_append, fstB, if_pos h]; rfl
  | x :: a, c, r, h, hc => by
    rw [List.any_cons, Bool.or_eq_false_iff] at h
    rw [List.cons_append, fstB, if_neg (by rw [h.1]; decide), fst_at a c r h.2 hc, if_neg (by omega), List.length_cons]; omega
theorem endW_le : ∀ (l : List UInt8) (i : Bool), endW i l ≤ l.length
  | [], i => Nat.zero_le _
  | c :: r, i => by
    rw [endW]
    split
    · have := endW_le r (c.toNat == 91 || (i && !(c.toNat == 93))); rw [List.length_cons]; omega
    · exact Nat.zero_le _
/-- outside brackets, over bytes that are neither colons nor brackets -/
theorem endW_out : ∀ (a x : List UInt8), (∀ c ∈ a, c.toNat ≠ 58 ∧ c.toNat ≠ 91) → endW false (a ++ x) = endW false x + a.length
  | [], x, _ => by simp
  | c :: a, x, h => by
    obtain ⟨h1, h2⟩ := h c (List.mem_cons_self ..)
    rw [List.cons_append, endW, if_pos (.inr h1), show (c.toNat == 91 || (false && !(c.toNat == 93))) = false from by simp [h2], endW_out a x (fun d hd => h d (List.mem_cons_of_mem _ hd)), List.length_cons]; omega
/-- inside brackets -/
theorem endW_in : ∀ (a x : List UInt8), (∀ c ∈ a, c.toNat ≠ 93) → endW true (a ++ x) = endW true x + a.length
  | [], x, _ => by simp
  | c :: a, x, h => by
    have h1 := h c (List.mem_cons_self ..)
    rw [List.cons_append, endW, if_pos (.inl rfl), show (c.toNat == 91 || (true && !(c.toNat == 93))) = true from by simp [h1], endW_in a x (fun d hd => h d (List.mem_cons_of_mem _ hd)), List.length_cons]; omega
theorem lab_byte (c : UInt8) (h : testc 64 c = true) : c.toNat ≠ 58 ∧ c.toNat ≠ 91 := by
  have := all_bytes (fun c => testc 64 c = true → c.toNat ≠ 58 ∧ c.toNat ≠ 91) (by decide +kernel) c
  exact this h
theorem six_byte (c : UInt8) (h : sixb c = true) : c.toNat ≠ 93 := by
  have := all_bytes (fun c => sixb c = true → c.toNat ≠ 93) (by decide +kernel) c
  exact this h
theorem endW_host (h x : List UInt8) (hh : hostS h = true) (hx : endW false x = 0) : endW false (h ++ x) = h.length := by
  unfold hostS at hh
  simp only [Bool.and_eq_true, decide_eq_true_eq] at hh
  have h3 := hh.2
  split at h3
  · rename_i hd
    unfold sixS at h3
    simp only [Bool.and_eq_true, decide_eq_true_eq] at h3
    have hin := h3.1.2
    have hlen := h3.1.1.1
    have hd' : h.head? = some 91 := by simpa using hd
    have hl : h.getLast? = some 93 := by simpa using h3.1.1.2
    have e : h = 91 :: (inner h (h.length - 1) ++ [93]) := by
      cases h with
      | nil => cases hd'
      | cons a r =>
        injection hd' with hd'
        subst hd'
        congr 1
        cases r with
        | nil => simp at hlen
        | cons b s =>
          have hr : (b :: s) = (b :: s).dropLast ++ [93] := by
            have h5 : (b :: s).getLast? = some 93 := by rw [← hl, List.getLast?_cons_cons]
            have h6 := List.getLast?_eq_some_iff.1 h5
            obtain ⟨ys, h6⟩ := h6
            rw [h6, List.dropLast_concat]
          unfold inner
          rw [show (91 :: b :: s).length - 1 = (b :: s).length from rfl, show ((91 : UInt8) :: b :: s).take (b :: s).length = 91 :: (b :: s).take s.length from rfl, List.drop_succ_cons, List.drop_zero]
          rw [show (b :: s).take s.length = (b :: s).dropLast from by rw [List.dropLast_eq_take]; rfl]
          exact hr
    obtain ⟨m, hm⟩ : ∃ m, m = inner h (h.length - 1) := ⟨_, rfl⟩
    rw [← hm] at e hin
    rw [e]
    show endW false (91 :: ((m ++ [93]) ++ x)) = _
    rw [endW, if_pos (.inr (by decide)), show ((91 : UInt8).toNat == 91 || (false && !((91 : UInt8).toNat == 93))) = true from by decide, List.append_assoc, endW_in m _ (fun c hc => six_byte c (List.all_eq_true.1 hin c hc))]
    show endW true (93 :: x) + m.length + 1 = _
    rw [endW, if_pos (.inl rfl), show ((93 : UInt8).toNat == 91 || (true && !((93 : UInt8).toNat == 93))) = false from by decide, hx]
    simp; omega
  · rw [List.all_eq_true] at h3
    rw [endW_out h x, hx, Nat.zero_add]
    intro c hc
    rcases splitc_all 46 (testc 64) h (fun p hp => by
      have := h3 p hp
      unfold label allc at this
      simp only [Bool.and_eq_true] at this
      exact this.1.1.2) c hc with h4 | h4
    · exact lab_byte c h4
    · rw [h4]; decide
theorem host_low (h : List UInt8) (hh : hostS h = true) : lowr h = h ∧ h ≠ [] ∧ h.length ≤ 64 := by
  have := hh
  unfold hostS at this
  simp only [Bool.and_eq_true, decide_eq_true_eq, beq_iff_eq] at this
  exact ⟨this.1.2, fun e => by rw [e] at this; simp at this, this.1.1.2⟩
theorem host_wch (h : List UInt8) (hh : hostS h = true) : h.all wch = true := by
  rw [List.all_eq_true]
  intro c hc
  have h1 := (host_all h hh).1 c hc
  have := all_bytes (fun c => hch c = true → wch c = true) (by decide +kernel) c
  exact this h1
theorem portT_wch (p : Int) : (portT p).all wch = true := by
  unfold portT
  split
  · rw [List.all_cons, Bool.and_eq_true]
    refine ⟨by decide +kernel, ?_⟩
    rw [List.all_eq_true]
    intro c hc
    have := all_bytes (fun c => isDig c = true → wch c = true) (by decide +kernel) c
    exact this (List.all_eq_true.1 (digits_all p) c hc)
  · rfl
theorem portT_len (p : Int) : (portT p).length ≤ 21 := by
  unfold portT
  split
  · have h0 : ∀ f m, (digF f m).length ≤ f := by
      intro f
      induction f with
      | zero => intro m; exact Nat.le_refl _
      | succ f ih => intro m; rw [digF]; split <;> simp; have := ih (m / 10); omega
    rw [List.length_cons]
    unfold digits
    split
    · decide
    · have := h0 20 p.toNat; omega
  · exact Nat.zero_le _
theorem where_back (h : List UInt8) (p : Int) (hh : hostS h = true) (h0 : 0 ≤ p) (h1 : p ≤ 65535) : whereS (h ++ portT p) = ((h, p), 0) := by
  have he : endW false (h ++ portT p) = h.length := by
    refine endW_host h _ hh ?_
    unfold portT
    split
    · rw [endW, if_neg]; rintro (h | h); cases h; exact h (by decide)
    · rfl
  obtain ⟨hl, hne, _⟩ := host_low h hh
  unfold whereS
  rw [he, List.take_left, hl, if_neg (by rw [hh]; decide)]
  unfold portT
  split
  · rename_i hp
    rw [if_neg (by simp), show (h ++ 58 :: digits p).drop (h.length + 1) = digits p from by rw [show h ++ 58 :: digits p = (h ++ [58]) ++ digits p from by simp, List.drop_left' (by simp)], number_dig p 65535 (by omega) h1 (by omega), if_pos ⟨rfl, hp⟩]
  · rename_i hp
    rw [if_pos (by simp), show p = 0 from by omega]
theorem wall_append (a b : List UInt8) (ha : a.all wch = true) (hb : b.all wch = true) : (a ++ b).all wch = true := by rw [List.all_append, ha, hb]; rfl
theorem proto_wch : nProto.all wch = true := by decide +kernel
theorem wall_no (sep : UInt8) (hsep : sep = 59 ∨ sep = 44) (l : List UInt8) (h : l.all wch = true) : ∀ c ∈ l, c.toNat ≠ 34 ∧ c.toNat ≠ 60 ∧ c.toNat ≠ 62 ∧ c.toNat ≠ sep.toNat := fun c hc => by
  obtain ⟨a, b, d, e, f, _⟩ := wch_facts c (List.all_eq_true.1 h c hc)
  exact ⟨a, b, d, by rcases hsep with rfl | rfl; exact e; exact f⟩
theorem textV_trim (v : Hop) (h : hostS v.host = true) (ht : (textS v.ps).2 = 0) : trim (textV v) = textV v := by
  obtain ⟨_, htx⟩ := textS_ok v.ps ht
  have hlast := text_last _ _ _ htx
  refine trim_self _ (fun c hc => ?_) (fun c hc => ?_)
  · have : (textV v).head? = some 83 := rfl
    rw [this] at hc; injection hc with hc; rw [← hc]; decide +kernel
  · unfold textV at hc
    rw [show nProto ++ 32 :: (v.host ++ (portT v.port ++ (textS v.ps).1)) = (nProto ++ [32]) ++ ((v.host ++ portT v.port) ++ (textS v.ps).1) from by simp, List.getLast?_append, List.getLast?_append] at hc
    cases hl : (textS v.ps).1.getLast? with
    | some d => rw [hl] at hc; injection hc with hc; rw [← hc]; exact hlast d hl
    | none =>
      rw [hl] at hc
      have hw := wall_append _ _ (host_wch _ h) (portT_wch v.port)
      cases hp : (v.host ++ portT v.port).getLast? with
      | none => exact absurd (List.append_eq_nil_iff.1 (List.getLast?_eq_none_iff.1 hp)).1 (host_low _ h).2.1
      | some d =>
        rw [hp] at hc
        injection hc with hc
        rw [← hc]
        exact (wch_facts d (List.all_eq_true.1 hw d (List.mem_of_mem_getLast? hp))).2.2.2.2.2
theorem check_parts (v : Hop) (h : checkV v = 0) : hostS v.host = true ∧ 0 ≤ v.port ∧ v.port ≤ 65535 ∧ (textS v.ps).2 = 0 := by
  unfold checkV at h
  cases hh : hostS v.host
  · rw [hh, if_pos rfl] at h; exact absurd h (by decide)
  · rw [hh, if_neg (by decide)] at h
    split at h
    · exact absurd h (by decide)
    · exact ⟨rfl, by omega, by omega, h⟩
/-- A HOP THAT IS WRITTEN IS READ AS IT WAS -/
theorem parse_text (v : Hop) (h : checkV v = 0) : parse1 (textV v) = (v, 0) := by
  obtain ⟨hh, h0, h1, ht⟩ := check_parts v h
  obtain ⟨_, htx⟩ := textS_ok v.ps ht
  have hf : fstB (textV v) = 11 := by
    unfold textV
    exact fst_at nProto 32 _ (by decide +kernel) (by decide +kernel)
  have htk : (textV v).take 11 = nProto := by unfold textV; exact List.take_left' rfl
  have hdr : (textV v).drop 11 = 32 :: (v.host ++ (portT v.port ++ (textS v.ps).1)) := by unfold textV; exact List.drop_left' rfl
  have hw := wall_append _ _ (host_wch _ hh) (portT_wch v.port)
  have hp : parts (32 :: (v.host ++ (portT v.port ++ (textS v.ps).1))) 59 = (32 :: (v.host ++ portT v.port)) :: v.ps.map ptail := by
    unfold parts
    rw [show 32 :: (v.host ++ (portT v.port ++ (textS v.ps).1)) = (32 :: (v.host ++ portT v.port)) ++ (textS v.ps).1 from by simp, parts_wch 59 _ [] _ (fun c hc => by
      rcases List.mem_cons.1 hc with rfl | hc
      · decide
      · exact wall_no 59 (.inl rfl) _ hw c hc), List.nil_append]
    exact parts_text _ _ _ _ htx
  have htr : trim (32 :: (v.host ++ portT v.port)) = v.host ++ portT v.port := by
    have h2 := trim_mid [32] (v.host ++ portT v.port) [] (by decide +kernel) rfl (fun c hc => (wch_facts c (List.all_eq_true.1 hw c (List.mem_of_mem_head? hc))).2.2.2.2.2) (fun c hc => (wch_facts c (List.all_eq_true.1 hw c (List.mem_of_mem_getLast? hc))).2.2.2.2.2) (fun e => (host_low _ hh).2.1 (List.append_eq_nil_iff.1 e).1)
    simpa using h2
  unfold parse1
  rw [hf, show (11 : Int).toNat = 11 from rfl, htk, hdr, hp, if_pos ⟨by decide, same_self _⟩]
  show endV (whereS (trim (32 :: (v.host ++ portT v.port)))) (fieldsS (v.ps.map ptail)) = _
  rw [htr, where_back _ _ hh h0 h1, fieldsS_text _ ht]
  unfold endV
  rw [if_neg (fun h => h rfl), if_neg (fun h => h rfl)]
theorem parse_back (v : Hop) (h : checkV v = 0) : parseV (textV v) = (v, 0) := by
  obtain ⟨hh, _, _, ht⟩ := check_parts v h
  unfold parseV
  rw [textV_trim v hh ht]
  exact parse_text v h
theorem textV_len (v : Hop) (h : checkV v = 0) : (textV v).length ≤ 4000 := by
  obtain ⟨hh, _, hp, _⟩ := check_parts v h
  have h1 := (host_low _ hh).2.2
  have h2 := portT_len v.port
  have h3 := textS_le v.ps
  unfold textV
  rw [List.length_append, List.length_cons, List.length_append, List.length_append]
  have : nProto.length = 11 := rfl
  omega
theorem where_ok (l : List UInt8) (h : (whereS l).2 = 0) : hostS (whereS l).1.1 = true ∧ 0 ≤ (whereS l).1.2 ∧ (whereS l).1.2 ≤ 65535 := by
  unfold whereS at h ⊢
  cases hh : hostS (lowr (l.take (endW false l)))
  · rw [hh, if_pos rfl] at h; exact absurd h (by decide)
  · rw [hh, if_neg (by decide)] at h
    rw [if_neg (by decide)]
    split
    · exact ⟨hh, Int.le_refl _, (show (0 : Int) ≤ 65535 by decide)⟩
    · rename_i hl
      rw [if_neg hl] at h
      split
      · rename_i hn
        have := number_bdV _ 65535 (by decide) hn.1
        exact ⟨hh, this.1, this.2⟩
      · rename_i hn
        rw [if_neg hn] at h; exact absurd h (by decide)
theorem whereS_zero (l : List UInt8) (h : (whereS l).2 ≠ 0) : (whereS l).1 = ([], 0) := by
  unfold whereS at h ⊢
  split
  · rfl
  · rename_i h1
    rw [if_neg h1] at h
    split
    · rename_i h2; rw [if_pos h2] at h; exact absurd rfl h
    · rename_i h2
      rw [if_neg h2] at h
      split
      · rename_i h3; rw [if_pos h3] at h; exact absurd rfl h
      · rfl
/-- WHAT IS READ MAY BE WRITTEN, AND WHAT IS NOT READ IS NO HOP -/
theorem parseV_ok (l : List UInt8) : ((parseV l).2 = 0 → checkV (parseV l).1 = 0) ∧ ((parseV l).2 ≠ 0 → (parseV l).1 = hop0) := by
  unfold parseV parse1
  obtain ⟨t, ht⟩ : ∃ t, t = trim l := ⟨_, rfl⟩
  rw [← ht]; clear ht
  split
  · obtain ⟨a, ha⟩ : ∃ a, a = trim ((parts (t.drop (fstB t).toNat) 59).headD []) := ⟨_, rfl⟩
    obtain ⟨P, hP⟩ : ∃ P, P = (parts (t.drop (fstB t).toNat) 59).tail := ⟨_, rfl⟩
    rw [← ha, ← hP]
    unfold endV
    by_cases h1 : (whereS a).2 = 0
    · rw [if_neg (fun h => h h1)]
      by_cases h2 : (fieldsS P).2 = 0
      · rw [if_neg (fun h => h h2)]
        refine ⟨fun _ => ?_, fun h => absurd rfl h⟩
        obtain ⟨w1, w2, w3⟩ := where_ok a h1
        unfold checkV
        dsimp only
        rw [w1, if_neg (by decide), if_neg (by omega)]
        exact fields_textS P h2
      · rw [if_pos h2]
        exact ⟨fun h => absurd h h2, fun _ => rfl⟩
    · rw [if_pos h1]
      exact ⟨fun h => absurd h h1, fun _ => rfl⟩
  · exact ⟨fun h => absurd h (by decide), fun _ => rfl⟩

end Go.Proofs.YtbljmjbialinkaaDoor
