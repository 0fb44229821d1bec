/-
  Plain Lean, no program in sight: what the functions of layer 6 (frame) compute, on lists of bytes.
-/
import Derived.Test.YtbljmjbialinkaaDoorNum
import Derived.Test.YtbljmjbialinkaaDoorUri
namespace Go.Proofs.YtbljmjbialinkaaDoor
open Go.RowKit

structure Hdr where
  name : List UInt8
  value : List UInt8
deriving DecidableEq
structure Mg where
  method : List UInt8
  target : List UInt8
  status : Int
  reason : List UInt8
  hdrs : List Hdr
  body : List UInt8
deriving DecidableEq
def mg0 : Mg := ⟨[], [], 0, [], [], []⟩

def nVia : List UInt8 := [86, 105, 97]
def nFrom : List UInt8 := [70, 114, 111, 109]
def nTo : List UInt8 := [84, 111]
def nCallId : List UInt8 := [67, 97, 108, 108, 45, 73, 68]
def nContact : List UInt8 := [67, 111, 110, 116, 97, 99, 116]
def nCEnc : List UInt8 := [67, 111, 110, 116, 101, 110, 116, 45, 69, 110, 99, 111, 100, 105, 110, 103]
def nCLen : List UInt8 := [67, 111, 110, 116, 101, 110, 116, 45, 76, 101, 110, 103, 116, 104]
def nCTyp : List UInt8 := [67, 111, 110, 116, 101, 110, 116, 45, 84, 121, 112, 101]
def nSubject : List UInt8 := [83, 117, 98, 106, 101, 99, 116]
def nSupp : List UInt8 := [83, 117, 112, 112, 111, 114, 116, 101, 100]
def nEvent : List UInt8 := [69, 118, 101, 110, 116]
def nAllow : List UInt8 := [65, 108, 108, 111, 119, 45, 69, 118, 101, 110, 116, 115]
def ver : List UInt8 := [83, 73, 80, 47, 50, 46, 48]
/-- the short names and the long ones -/
def shorts : List UInt8 := [118, 102, 116, 105, 109, 101, 108, 99, 115, 107, 111, 117]
def longs : List (List UInt8) := [nVia, nFrom, nTo, nCallId, nContact, nCEnc, nCLen, nCTyp, nSubject, nSupp, nEvent, nAllow]
def longGo (c : UInt8) : List UInt8 → List (List UInt8) → Option (List UInt8)
  | s :: r, l :: t => if c.toNat = s.toNat then some l else longGo c r t
  | _, _ => none
def longS (l : List UInt8) : List UInt8 :=
  match l with
  | [c] => (longGo (low c) shorts longs).getD l
  | _ => l

/-- may a byte stand in a line? -/
def vis (c : UInt8) : Bool := c.toNat == 9 || (decide (32 ≤ c.toNat) && !(c.toNat == 127))
def visS (l : List UInt8) : Bool := l.all vis
def valS (l : List UInt8) : Bool := visS l && (trim l == l)
def targS (l : List UInt8) : Bool := !(l == []) && visS l && l.all (fun c => !blank c)
def firstS (m : Mg) : Bool :=
  if m.method = [] then decide (100 ≤ m.status) && decide (m.status ≤ 699) && valS m.reason && (m.target == [])
  else token m.method && targS m.target && (m.status == 0) && (m.reason == [])
def isLen (l : List UInt8) : Bool := same l nCLen
def badH (h : Hdr) : Bool := !(token h.name) || !(longS h.name == h.name) || isLen h.name || !(valS h.value)
def checkS (m : Mg) : Int := if firstS m = false then 60 else if 64 < m.hdrs.length then 4 else if m.hdrs.any badH = true then 61 else 0

def lineH (h : Hdr) : List UInt8 := h.name ++ 58 :: 32 :: (h.value ++ [13, 10])
def startL (m : Mg) : List UInt8 :=
  if m.method = [] then ver ++ 32 :: (digits m.status ++ 32 :: m.reason) else m.method ++ 32 :: (m.target ++ 32 :: ver)
def tailT (b : List UInt8) : List UInt8 := nCLen ++ 58 :: 32 :: (digits b.length ++ 13 :: 10 :: 13 :: 10 :: b)
def textM (m : Mg) : List UInt8 := startL m ++ 13 :: 10 :: (m.hdrs.flatMap lineH ++ tailT m.body)
def printM (m : Mg) : List UInt8 × Int :=
  if checkS m ≠ 0 then ([], checkS m) else if 4096 < (textM m).length then ([], 2) else (textM m, 0)

/-- where the first end of a line stands -/
def idxCR : List UInt8 → Option Nat
  | [] => none
  | c :: r => if c.toNat = 13 ∧ r.head? = some 10 then some 0 else (idxCR r).map (· + 1)
def folded (t : List UInt8) : Bool := match t with | [] => false | c :: _ => blank c
def addLine (L : List (List UInt8)) (t : List UInt8) : List (List UInt8) :=
  if 2 ≤ L.length ∧ folded t = true then L.dropLast ++ [(L.getLast?.getD []) ++ 32 :: trim t] else L ++ [t]
def headGo (L : List (List UInt8)) (cur : List UInt8) : List UInt8 → Option (List (List UInt8) × List UInt8)
  | [] => none
  | c :: r =>
    if c.toNat = 13 ∧ r.head? = some 10 then
      match r with
      | [] => none
      | _ :: r' => if cur = [] then some (L, r') else headGo (addLine L cur) [] r'
    else headGo L (cur ++ [c]) r
def startOf (a b c : List UInt8) : Option Mg :=
  if same a ver = true then
    if (number b 699).2 = 0 ∧ b.length = 3 ∧ firstS ⟨[], [], (number b 699).1, c, [], []⟩ = true then some ⟨[], [], (number b 699).1, c, [], []⟩ else none
  else if same c ver = true ∧ a ≠ [] ∧ firstS ⟨a, b, 0, [], [], []⟩ = true then some ⟨a, b, 0, [], [], []⟩ else none
def startS (l : List UInt8) : Option Mg :=
  if (cutb 32 l).2.2 = true ∧ (cutb 32 (cutb 32 l).2.1).2.2 = true then
    startOf (cutb 32 l).1 (cutb 32 (cutb 32 l).2.1).1 (cutb 32 (cutb 32 l).2.1).2.1
  else none
/-- one line of a head: the headers so far, the length that was told (below 0: none) -/
def lineOf (H : List Hdr) (z : Int) (name v : List UInt8) (is : Bool) : (List Hdr × Int) × Int :=
  if is = false ∨ token name = false ∨ visS v = false then ((H, z), 61)
  else if isLen name = false then (if 64 ≤ H.length then ((H, z), 4) else ((H ++ [⟨name, v⟩], z), 0))
  else if (number v 4096).2 ≠ 0 ∨ 0 ≤ z then ((H, z), 62)
  else ((H, (number v 4096).1), 0)
def lineS (H : List Hdr) (z : Int) (t : List UInt8) : (List Hdr × Int) × Int :=
  lineOf H z (longS (trimR (cutb 58 t).1)) (trim (cutb 58 t).2.1) (cutb 58 t).2.2
def linesS : List Hdr → Int → List (List UInt8) → (List Hdr × Int) × Int
  | H, z, [] => ((H, z), 0)
  | H, z, t :: r => if (lineS H z t).2 ≠ 0 then lineS H z t else linesS (lineS H z t).1.1 (lineS H z t).1.2 r
def bodyS (z : Int) (rest : List UInt8) : List UInt8 := if 0 ≤ z then rest.take z.toNat else rest
def endS (m : Mg) (rest : List UInt8) (r : (List Hdr × Int) × Int) : Mg × Int :=
  if r.2 ≠ 0 then (mg0, r.2) else if (rest.length : Int) < r.1.2 then (mg0, 62)
  else ({ m with hdrs := r.1.1, body := bodyS r.1.2 rest }, 0)
def parse2 (L : List (List UInt8)) (rest : List UInt8) : Mg × Int :=
  match L with
  | [] => (mg0, 63)
  | t :: ts => match startS t with
    | none => (mg0, 60)
    | some m => endS m rest (linesS [] (-1) ts)
def parseS (l : List UInt8) : Mg × Int :=
  if 4096 < l.length then (mg0, 2)
  else match headGo [] [] l with
    | none => (mg0, 63)
    | some (L, rest) => parse2 L rest

def allS (H : List Hdr) (name : List UInt8) : List (List UInt8) := (H.filter fun h => same h.name name).map Hdr.value
def oneS (H : List Hdr) (name : List UInt8) : List UInt8 × Bool :=
  match allS H name with
  | [x] => (x, true)
  | _ => ([], false)

/-! ### The plain laws -/

theorem vis_facts (c : UInt8) (h : vis c = true) : c.toNat ≠ 13 ∧ c.toNat ≠ 10 := by
  have := all_bytes (fun c => vis c = true → c.toNat ≠ 13 ∧ c.toNat ≠ 10) (by decide +kernel) c
  exact this h
theorem tok_facts (c : UInt8) (h : testc 8 c = true) : c.toNat ≠ 13 ∧ c.toNat ≠ 10 ∧ c.toNat ≠ 32 ∧ c.toNat ≠ 58 ∧ c.toNat ≠ 47 ∧ blank c = false ∧ vis c = true ∧ (low c).toNat ≠ 47 := by
  have := all_bytes (fun c => testc 8 c = true → c.toNat ≠ 13 ∧ c.toNat ≠ 10 ∧ c.toNat ≠ 32 ∧ c.toNat ≠ 58 ∧ c.toNat ≠ 47 ∧ blank c = false ∧ vis c = true ∧ (low c).toNat ≠ 47) (by decide +kernel) c
  exact this h
theorem dig_facts (c : UInt8) (h : isDig c = true) : c.toNat ≠ 13 ∧ c.toNat ≠ 32 ∧ vis c = true := by
  have := all_bytes (fun c => isDig c = true → c.toNat ≠ 13 ∧ c.toNat ≠ 32 ∧ vis c = true) (by decide +kernel) c
  exact this h
theorem token_all (l : List UInt8) (h : token l = true) : ∀ c ∈ l, testc 8 c = true := by
  unfold token at h
  simp only [Bool.and_eq_true] at h
  have h2 := h.2
  unfold allc at h2
  rw [List.all_eq_true] at h2
  exact h2
theorem token_ne (l : List UInt8) (h : token l = true) : l ≠ [] := by
  rintro rfl; exact absurd h (by decide)
theorem token_64 (l : List UInt8) (h : token l = true) : l.length ≤ 64 := by
  unfold token at h
  simp only [Bool.and_eq_true, decide_eq_true_eq] at h
  exact h.1.2
theorem cutb_at (c : UInt8) : ∀ (a b : List UInt8), (∀ x ∈ a, x.toNat ≠ c.toNat) → cutb c (a ++ c :: b) = (a, b, true)
  | [], b, _ => by rw [List.nil_append, cutb, if_pos rfl]
  | x :: r, b, h => by
    rw [List.cons_append, cutb, if_neg (h x (List.mem_cons_self ..)), cutb_at c r b (fun y hy => h y (List.mem_cons_of_mem _ hy))]

theorem head_cons (L : List (List UInt8)) (cur : List UInt8) (c : UInt8) (r : List UInt8) : headGo L cur (c :: r) =
    if c.toNat = 13 ∧ r.head? = some 10 then
      match r with
      | [] => none
      | _ :: r' => if cur = [] then some (L, r') else headGo (addLine L cur) [] r'
    else headGo L (cur ++ [c]) r := by
  rw [headGo.eq_def]
/-- where the head's machine stands behind one line -/
theorem head_line (L : List (List UInt8)) : ∀ (t cur r : List UInt8), (∀ c ∈ t, c.toNat ≠ 13) →
    headGo L cur (t ++ 13 :: 10 :: r) = if cur ++ t = [] then some (L, r) else headGo (addLine L (cur ++ t)) [] r
  | [], cur, r, _ => by
    rw [List.nil_append, head_cons, if_pos ⟨by decide, rfl⟩]; simp
  | c :: t, cur, r, h => by
    rw [List.cons_append, head_cons, if_neg (by rintro ⟨h1, _⟩; exact h c (List.mem_cons_self ..) h1), head_line L t (cur ++ [c]) r (fun x hx => h x (List.mem_cons_of_mem _ hx))]
    simp
theorem head_idx (L : List (List UInt8)) : ∀ (l cur : List UInt8), headGo L cur l =
    match idxCR l with
    | none => none
    | some n => if cur ++ l.take n = [] then some (L, l.drop (n + 2)) else headGo (addLine L (cur ++ l.take n)) [] (l.drop (n + 2))
  | [], cur => by rw [headGo, idxCR]
  | c :: r, cur => by
    rw [head_cons, idxCR]
    by_cases h : c.toNat = 13 ∧ r.head? = some 10
    · rw [if_pos h, if_pos h]
      obtain ⟨_, h⟩ := h
      cases r with
      | nil => cases h
      | cons d r' => simp
    · rw [if_neg h, if_neg h, head_idx L r (cur ++ [c])]
      cases idxCR r with
      | none => rfl
      | some n => simp

theorem same_self (l : List UInt8) : same l l = true := by unfold same; exact beq_self_eq_true _
theorem lowr_mem {a b : List UInt8} (h : same a b = true) (c : UInt8) (hc : c ∈ b) : ∃ d ∈ a, low d = low c := by
  unfold same at h
  have h := eq_of_beq h
  have h2 : low c ∈ lowr b := List.mem_map.2 ⟨c, hc, rfl⟩
  rw [← h] at h2
  obtain ⟨d, hd, he⟩ := List.mem_map.1 h2
  exact ⟨d, hd, he⟩
/-- no token is the version -/
theorem token_ver (l : List UInt8) (h : token l = true) : same l ver = false := by
  cases hs : same l ver
  · rfl
  · obtain ⟨d, hd, he⟩ := lowr_mem hs 47 (by decide)
    have := (tok_facts d (token_all l h d hd)).2.2.2.2.2.2.2
    rw [he] at this
    exact absurd (by decide) this
theorem digits_three (n : Int) (h0 : 100 ≤ n) (h1 : n ≤ 699) : (digits n).length = 3 := by
  have key : ∀ k : Fin 700, 100 ≤ k.val → (digits (k.val : Int)).length = 3 := by decide +kernel
  have := key ⟨n.toNat, by omega⟩ (by show 100 ≤ n.toNat; omega)
  rw [show (((⟨n.toNat, by omega⟩ : Fin 700).val : Int)) = n by show ((n.toNat : Nat) : Int) = n; omega] at this
  exact this
theorem number_dig (n most : Int) (h0 : 0 ≤ n) (hm : n ≤ most) (hb : n ≤ 9223372036854775807) : number (digits n) most = (n, 0) := by
  rw [number_val most (by omega) _ (digits_ne n h0) (digits_all n), valF_digits n h0 hb, if_pos hm]
theorem first_line (m : Mg) (h : firstS m = true) : (∀ c ∈ startL m, c.toNat ≠ 13) ∧ startL m ≠ [] ∧ startS (startL m) = some ⟨m.method, m.target, m.status, m.reason, [], []⟩ := by
  unfold firstS at h
  unfold startL
  by_cases hm : m.method = []
  · rw [if_pos hm] at h ⊢
    simp only [Bool.and_eq_true, decide_eq_true_eq, beq_iff_eq] at h
    obtain ⟨⟨⟨h0, h1⟩, hr⟩, ht⟩ := h
    have hd : ∀ c ∈ digits m.status, c.toNat ≠ 13 ∧ c.toNat ≠ 32 ∧ vis c = true := fun c hc => dig_facts c (List.all_eq_true.1 (digits_all m.status) c hc)
    have hv := hr
    unfold valS at hr
    rw [Bool.and_eq_true] at hr
    have hr1 := List.all_eq_true.1 hr.1
    refine ⟨?_, by simp [ver], ?_⟩
    · intro c hc
      simp only [List.mem_append, List.mem_cons] at hc
      rcases hc with hc | rfl | hc | rfl | hc
      · have : ∀ c ∈ ver, c.toNat ≠ 13 := by decide
        exact this c hc
      · decide
      · exact (hd c hc).1
      · decide
      · exact (vis_facts c (hr1 c hc)).1
    · unfold startS
      rw [cutb_at 32 ver _ (by decide)]
      dsimp only
      rw [cutb_at 32 (digits m.status) _ (fun c hc => (hd c hc).2.1)]
      dsimp only
      rw [if_pos ⟨rfl, rfl⟩]
      unfold startOf
      rw [if_pos (same_self ver), number_dig m.status 699 (by omega) h1 (by omega)]
      rw [if_pos]
      · rw [hm, ht]
      · refine ⟨rfl, digits_three _ h0 h1, ?_⟩
        unfold firstS
        rw [if_pos rfl, hv]
        simp [h0, h1]
  · rw [if_neg hm] at h ⊢
    simp only [Bool.and_eq_true, beq_iff_eq] at h
    obtain ⟨⟨⟨h0, h1⟩, hs⟩, hr⟩ := h
    have ht := h1
    unfold targS at h1
    simp only [Bool.and_eq_true] at h1
    have hv := List.all_eq_true.1 h1.1.2
    have hb := List.all_eq_true.1 h1.2
    have htk := fun c hc => tok_facts c (token_all m.method h0 c hc)
    refine ⟨?_, by simp, ?_⟩
    · intro c hc
      simp only [List.mem_append, List.mem_cons] at hc
      rcases hc with hc | rfl | hc | rfl | hc
      · exact (htk c hc).1
      · decide
      · exact (vis_facts c (hv c hc)).1
      · decide
      · have : ∀ c ∈ ver, c.toNat ≠ 13 := by decide
        exact this c hc
    · unfold startS
      rw [cutb_at 32 m.method _ (fun c hc => (htk c hc).2.2.1)]
      dsimp only
      rw [cutb_at 32 m.target ver (fun c hc e => by
        have := hb c hc
        rw [show c = 32 from UInt8.toNat_inj.1 e] at this
        revert this; decide)]
      dsimp only
      rw [if_pos ⟨rfl, rfl⟩]
      unfold startOf
      rw [if_neg (by rw [token_ver m.method h0]; decide), if_pos]
      · rw [hs, hr]
      · refine ⟨same_self ver, hm, ?_⟩
        unfold firstS
        rw [if_neg hm]
        dsimp only
        rw [h0, ht]; rfl
theorem token_ends (l : List UInt8) (h : token l = true) : (∀ c, l.head? = some c → blank c = false) ∧ (∀ c, l.getLast? = some c → blank c = false) :=
  ⟨fun c hc => (tok_facts c (token_all l h c (List.mem_of_mem_head? hc))).2.2.2.2.2.1, fun c hc => (tok_facts c (token_all l h c (List.mem_of_mem_getLast? hc))).2.2.2.2.2.1⟩
theorem trimR_self (l : List UInt8) (h1 : ∀ c, l.getLast? = some c → blank c = false) : trimR l = l := by
  unfold trimR
  rw [dropWhile_none blank l.reverse (fun c hc => h1 c (by rw [← List.head?_reverse]; exact hc)), List.reverse_reverse]
theorem trim_blank (l : List UInt8) : trim (32 :: l) = trim l := by
  unfold trim trimL
  rw [List.dropWhile_cons_of_pos (by decide)]
/-- a header's line says the header -/
theorem line_of (H : List Hdr) (z : Int) (h : Hdr) (hb : badH h = false) (hl : H.length < 64) : lineS H z (h.name ++ 58 :: 32 :: h.value) = ((H ++ [h], z), 0) := by
  unfold badH at hb
  simp only [Bool.or_eq_false_iff, Bool.not_eq_false'] at hb
  obtain ⟨⟨⟨h1, h2⟩, h3⟩, h4⟩ := hb
  unfold valS at h4
  rw [Bool.and_eq_true] at h4
  unfold lineS
  rw [cutb_at 58 h.name _ (fun c hc => (tok_facts c (token_all _ h1 c hc)).2.2.2.1)]
  dsimp only
  rw [trimR_self _ (token_ends _ h1).2, eq_of_beq h2, trim_blank, eq_of_beq h4.2]
  unfold lineOf
  rw [if_neg, if_pos h3, if_neg (by omega)]
  rintro (h | h | h)
  · cases h
  · rw [h1] at h; cases h
  · rw [h4.1] at h; cases h
theorem len_line (H : List Hdr) (z : Int) (n : Nat) (hn : n ≤ 4096) (hz : z < 0) : lineS H z (nCLen ++ 58 :: 32 :: digits (n : Int)) = ((H, (n : Int)), 0) := by
  unfold lineS
  rw [cutb_at 58 nCLen _ (by decide)]
  dsimp only
  have hd := digits_all (n : Int)
  rw [trim_blank, trim_self _ (dig_ends _ hd).1 (dig_ends _ hd).2]
  have e1 : longS (trimR nCLen) = nCLen := by decide +kernel
  rw [e1]
  unfold lineOf
  rw [if_neg, if_neg, number_dig (n : Int) 4096 (by omega) (by omega) (by omega), if_neg]
  · rintro (h | h)
    · exact h rfl
    · omega
  · have : isLen nCLen = true := by decide +kernel
    rw [this]; decide
  · rintro (h | h | h)
    · cases h
    · have : token nCLen = true := by decide +kernel
      rw [this] at h; cases h
    · have : visS (digits (n : Int)) = true := by
        unfold visS
        rw [List.all_eq_true] at hd ⊢
        exact fun c hc => (dig_facts c (hd c hc)).2.2
      rw [this] at h; cases h
def lineT (h : Hdr) : List UInt8 := h.name ++ 58 :: 32 :: h.value
theorem lineT_facts (h : Hdr) (hb : badH h = false) : (∀ c ∈ lineT h, c.toNat ≠ 13) ∧ lineT h ≠ [] ∧ folded (lineT h) = false := by
  unfold badH at hb
  simp only [Bool.or_eq_false_iff, Bool.not_eq_false'] at hb
  obtain ⟨⟨⟨h1, h2⟩, h3⟩, h4⟩ := hb
  unfold valS at h4
  rw [Bool.and_eq_true] at h4
  have hv := List.all_eq_true.1 h4.1
  unfold lineT
  refine ⟨?_, by simp, ?_⟩
  · intro c hc
    simp only [List.mem_append, List.mem_cons] at hc
    rcases hc with hc | rfl | rfl | hc
    · exact (tok_facts c (token_all _ h1 c hc)).1
    · decide
    · decide
    · exact (vis_facts c (hv c hc)).1
  · cases hn : h.name with
    | nil => exact absurd hn (token_ne _ h1)
    | cons c r => exact (tok_facts c (token_all _ h1 c (by rw [hn]; exact List.mem_cons_self ..))).2.2.2.2.2.1
theorem addLine_no (L : List (List UInt8)) (t : List UInt8) (h : folded t = false) : addLine L t = L ++ [t] := by
  unfold addLine; rw [if_neg]; rintro ⟨_, h'⟩; rw [h] at h'; cases h'
/-- the machine behind the headers' lines -/
theorem head_hdrs : ∀ (H : List Hdr) (L : List (List UInt8)) (r : List UInt8), H.any badH = false → headGo L [] (H.flatMap lineH ++ r) = headGo (L ++ H.map lineT) [] r
  | [], L, r, _ => by simp
  | h :: H, L, r, hb => by
    rw [List.any_cons, Bool.or_eq_false_iff] at hb
    obtain ⟨f1, f2, f3⟩ := lineT_facts h hb.1
    have e : (h :: H).flatMap lineH ++ r = lineT h ++ 13 :: 10 :: (H.flatMap lineH ++ r) := by simp [lineH, lineT]
    rw [e, head_line L _ [] _ f1, if_neg (by simpa using f2), List.nil_append, addLine_no _ _ f3, head_hdrs H _ r hb.2]
    simp
theorem lines_hdrs : ∀ (H H0 : List Hdr) (z : Int) (r : List (List UInt8)), H.any badH = false → H0.length + H.length ≤ 64 → linesS H0 z (H.map lineT ++ r) = linesS (H0 ++ H) z r
  | [], H0, z, r, _, _ => by simp
  | h :: H, H0, z, r, hb, hl => by
    rw [List.any_cons, Bool.or_eq_false_iff] at hb
    rw [List.length_cons] at hl
    have := line_of H0 z h hb.1 (by omega)
    rw [List.map_cons, List.cons_append, linesS]
    unfold lineT
    rw [this, if_neg (fun h => h rfl)]
    dsimp only
    have ih := lines_hdrs H (H0 ++ [h]) z r hb.2 (by rw [List.length_append]; simp; omega)
    unfold lineT at ih
    rw [ih]; simp
theorem check_ok (m : Mg) (h : checkS m = 0) : firstS m = true ∧ m.hdrs.length ≤ 64 ∧ m.hdrs.any badH = false := by
  unfold checkS at h
  by_cases h1 : firstS m = false
  · rw [if_pos h1] at h; exact absurd h (by decide)
  · rw [if_neg h1] at h
    by_cases h2 : 64 < m.hdrs.length
    · rw [if_pos h2] at h; exact absurd h (by decide)
    · rw [if_neg h2] at h
      by_cases h3 : m.hdrs.any badH = true
      · rw [if_pos h3] at h; exact absurd h (by decide)
      · exact ⟨by simpa using h1, by omega, by simpa using h3⟩
theorem check_of (m : Mg) (h1 : firstS m = true) (h2 : m.hdrs.length ≤ 64) (h3 : m.hdrs.any badH = false) : checkS m = 0 := by
  unfold checkS
  rw [if_neg (by rw [h1]; decide), if_neg (by omega), if_neg (by rw [h3]; decide)]
theorem tail_len (b : List UInt8) : b.length ≤ (tailT b).length := by
  unfold tailT; simp; omega
/-- what stands behind the first line and the headers -/
theorem head_tail (L : List (List UInt8)) (b x : List UInt8) : headGo L [] (tailT b ++ x) = some (L ++ [nCLen ++ 58 :: 32 :: digits (b.length : Int)], b ++ x) := by
  have hd := List.all_eq_true.1 (digits_all (b.length : Int))
  have e : tailT b ++ x = (nCLen ++ 58 :: 32 :: digits (b.length : Int)) ++ 13 :: 10 :: ([] ++ 13 :: 10 :: (b ++ x)) := by unfold tailT; simp
  rw [e, head_line L _ [] _ ?_, if_neg (by simp [nCLen]), List.nil_append, addLine_no _ _ rfl, head_line _ [] [] _ (by simp), if_pos (by simp)]
  intro c hc
  simp only [List.mem_append, List.mem_cons] at hc
  rcases hc with hc | rfl | rfl | hc
  · have : ∀ c ∈ nCLen, c.toNat ≠ 13 := by decide
    exact this c hc
  · decide
  · decide
  · exact (dig_facts c (hd c hc)).1
/-- what is printed is parsed as it was, whatever stands behind it -/
theorem parse_print (m : Mg) (hc : checkS m = 0) (x : List UInt8) (hl : (textM m ++ x).length ≤ 4096) : parseS (textM m ++ x) = (m, 0) := by
  obtain ⟨h1, h2, h3⟩ := check_ok m hc
  obtain ⟨f1, f2, f3⟩ := first_line m h1
  unfold parseS
  rw [if_neg (by omega)]
  have e : textM m ++ x = startL m ++ 13 :: 10 :: (m.hdrs.flatMap lineH ++ (tailT m.body ++ x)) := by unfold textM; simp
  have hbl : m.body.length ≤ 4096 := by
    have := tail_len m.body
    rw [e] at hl
    simp only [List.length_append, List.length_cons] at hl
    omega
  rw [e, head_line [] _ [] _ f1, if_neg (by simpa using f2), List.nil_append]
  have ha : addLine [] (startL m) = [startL m] := by unfold addLine; rw [if_neg (by simp)]; rfl
  rw [ha, head_hdrs _ _ _ h3, head_tail]
  show parse2 ([startL m] ++ m.hdrs.map lineT ++ [_]) _ = _
  have e2 : [startL m] ++ m.hdrs.map lineT ++ [nCLen ++ 58 :: 32 :: digits (m.body.length : Int)] = startL m :: (m.hdrs.map lineT ++ [nCLen ++ 58 :: 32 :: digits (m.body.length : Int)]) := by simp
  rw [e2]
  unfold parse2
  dsimp only
  rw [f3]
  dsimp only
  rw [lines_hdrs _ [] _ _ h3 (by simpa using h2), List.nil_append, linesS, len_line _ _ _ hbl (by decide), if_neg (fun h => h rfl)]
  dsimp only
  rw [linesS]
  unfold endS
  rw [if_neg (fun h => h rfl), if_neg (by simp only [List.length_append]; omega)]
  dsimp only
  unfold bodyS
  rw [if_pos (by omega)]
  simp

theorem longS_two (l : List UInt8) (h : l.length ≠ 1) : longS l = l := by
  unfold longS
  match l, h with
  | [], _ => rfl
  | [_], h => exact absurd rfl h
  | _ :: _ :: _, _ => rfl
theorem longGo_len (c : UInt8) : ∀ (s : List UInt8) (L : List (List UInt8)), (∀ x ∈ L, 2 ≤ x.length) → ∀ x, longGo c s L = some x → 2 ≤ x.length
  | [], _, _, x, h => by simp [longGo] at h
  | _ :: _, [], _, x, h => by simp [longGo] at h
  | a :: s, l :: L, hL, x, h => by
    rw [longGo] at h
    by_cases hc : c.toNat = a.toNat
    · rw [if_pos hc] at h
      injection h with h
      rw [← h]; exact hL l (List.mem_cons_self ..)
    · rw [if_neg hc] at h
      exact longGo_len c s L (fun y hy => hL y (List.mem_cons_of_mem _ hy)) x h
theorem longS_long (l : List UInt8) : longS (longS l) = longS l := by
  by_cases h : (longS l).length = 1
  · match l with
    | [] => rfl
    | _ :: _ :: _ => rfl
    | [c] =>
      have e : longS [c] = (longGo (low c) shorts longs).getD [c] := rfl
      cases hg : longGo (low c) shorts longs with
      | none => rw [e, hg]; exact e.trans (by rw [hg])
      | some x =>
        have := longGo_len (low c) shorts longs (by decide) x hg
        rw [e, hg] at h
        have h : x.length = 1 := h
        omega
  · exact longS_two _ h
theorem trimR_head (x : List UInt8) (c : UInt8) (h : (trimR x).head? = some c) : x.head? = some c := by
  unfold trimR at h
  rw [List.head?_reverse] at h
  obtain ⟨t, ht⟩ : (List.dropWhile blank x.reverse) <:+ x.reverse := List.dropWhile_suffix _
  have : x.reverse.getLast? = some c := by
    rw [← ht, List.getLast?_append, h]; rfl
  rw [List.getLast?_reverse] at this
  exact this
theorem dw_first (p : UInt8 → Bool) : ∀ (l : List UInt8) (c : UInt8), (l.dropWhile p).head? = some c → p c = false
  | [], _, h => by cases h
  | x :: r, c, h => by
    cases hx : p x
    · rw [List.dropWhile_cons_of_neg (by rw [hx]; decide)] at h
      injection h with h; rw [← h]; exact hx
    · rw [List.dropWhile_cons_of_pos hx] at h
      exact dw_first p r c h
theorem trim_ends (l : List UInt8) : (∀ c, (trim l).head? = some c → blank c = false) ∧ (∀ c, (trim l).getLast? = some c → blank c = false) := by
  constructor
  · intro c hc
    exact dw_first blank l c (trimR_head _ c hc)
  · intro c hc
    unfold trim trimR at hc
    rw [List.getLast?_reverse] at hc
    exact dw_first blank _ c hc
theorem trim_trim (l : List UInt8) : trim (trim l) = trim l := trim_self _ (trim_ends l).1 (trim_ends l).2

theorem lineS_ok (H : List Hdr) (z : Int) (t : List UInt8) (hH : H.any badH = false) (hl : H.length ≤ 64) (h : (lineS H z t).2 = 0) :
    (lineS H z t).1.1.any badH = false ∧ (lineS H z t).1.1.length ≤ 64 := by
  unfold lineS at h ⊢
  unfold lineOf at h ⊢
  split at h
  · exact absurd (show _ = (0 : Int) from h) (by simp)
  · rename_i hn
    rw [if_neg hn]
    split at h
    · rename_i hL
      rw [if_pos hL]
      split at h
      · exact absurd (show _ = (0 : Int) from h) (by simp)
      · rename_i h64
        rw [if_neg h64]
        dsimp only
        refine ⟨?_, by rw [List.length_append]; simp; omega⟩
        rw [List.any_append, hH]
        have ht : token (longS (trimR (cutb 58 t).1)) = true := by
          cases ht : token (longS (trimR (cutb 58 t).1))
          · exact absurd (.inr (.inl ht)) hn
          · rfl
        have hv : visS (trim (cutb 58 t).2.1) = true := by
          cases hv : visS (trim (cutb 58 t).2.1)
          · exact absurd (.inr (.inr hv)) hn
          · rfl
        simp [badH, ht, hL, longS_long, valS, hv, trim_trim]
    · rename_i hL
      rw [if_neg hL]
      split at h
      · rename_i hz
        exact absurd (show _ = (0 : Int) from h) (by simp)
      · rename_i hz
        rw [if_neg hz]
        exact ⟨hH, hl⟩
theorem linesS_ok : ∀ (T : List (List UInt8)) (H : List Hdr) (z : Int), H.any badH = false → H.length ≤ 64 → (linesS H z T).2 = 0 → (linesS H z T).1.1.any badH = false ∧ (linesS H z T).1.1.length ≤ 64
  | [], H, z, hH, hl, _ => by rw [linesS]; exact ⟨hH, hl⟩
  | t :: r, H, z, hH, hl, h => by
    rw [linesS] at h ⊢
    by_cases hc : (lineS H z t).2 = 0
    · rw [if_neg (by simpa using hc)] at h ⊢
      obtain ⟨a, b⟩ := lineS_ok H z t hH hl hc
      exact linesS_ok r _ _ a b h
    · rw [if_pos hc] at h; exact absurd h hc
theorem startS_ok (l : List UInt8) (m : Mg) (h : startS l = some m) : firstS m = true ∧ m.hdrs = [] ∧ m.body = [] := by
  unfold startS at h
  split at h
  · unfold startOf at h
    split at h
    · split at h
      · rename_i h1; injection h with h; subst h; exact ⟨h1.2.2, rfl, rfl⟩
      · cases h
    · split at h
      · rename_i h1; injection h with h; subst h; exact ⟨h1.2.2, rfl, rfl⟩
      · cases h
  · cases h
/-- what is parsed may be printed; what is not parsed is no message -/
theorem parse_ok (l : List UInt8) : ((parseS l).2 = 0 → checkS (parseS l).1 = 0) ∧ ((parseS l).2 ≠ 0 → (parseS l).1 = mg0) := by
  unfold parseS
  split
  · exact ⟨fun h => absurd h (by decide), fun _ => rfl⟩
  · split
    · exact ⟨fun h => absurd h (by decide), fun _ => rfl⟩
    · rename_i L rest _
      unfold parse2
      split
      · exact ⟨fun h => absurd h (by decide), fun _ => rfl⟩
      · split
        · exact ⟨fun h => absurd h (by decide), fun _ => rfl⟩
        · rename_i ts _ _ m hm
          obtain ⟨s1, _, _⟩ := startS_ok _ _ hm
          unfold endS
          split
          · rename_i h; exact ⟨fun h' => absurd h' h, fun _ => rfl⟩
          · rename_i h
            split
            · exact ⟨fun h => absurd h (by decide), fun _ => rfl⟩
            · refine ⟨fun _ => ?_, fun h => absurd rfl h⟩
              obtain ⟨a, b⟩ := linesS_ok ts [] (-1) rfl (Nat.zero_le _) (by simpa using h)
              exact check_of _ (by have := s1; unfold firstS at this ⊢; exact this) b a

end Go.Proofs.YtbljmjbialinkaaDoor
