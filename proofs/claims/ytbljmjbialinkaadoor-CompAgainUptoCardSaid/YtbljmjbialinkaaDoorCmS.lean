/-
  Plain Lean, no program in sight: what publications are together (chapter 17), and the laws Alone, Behind, Again, Own of it.
-/
import Derived.Lib.Hide
namespace Go.Proofs.YtbljmjbialinkaaDoor
set_option linter.unusedSimpArgs false
set_option linter.unusedVariables false

structure Tup where
  id : List UInt8
  opn : Bool
  con : List UInt8
  prio : Int
  note : List UInt8
deriving DecidableEq
structure Doc where
  ent : List UInt8
  tups : List Tup
  notes : List (List UInt8)
deriving DecidableEq
structure Pb where
  num : Int
  doc : Doc
def doc0 : Doc := ⟨[], [], []⟩
/-- a tuple by another name -/
def Tup.as (t : Tup) (i : List UInt8) : Tup := ⟨i, t.opn, t.con, t.prio, t.note⟩

section
variable (cand : Int → Nat → List UInt8) (okD : Doc → Bool)
def freeK (ids : List (List UInt8)) (num : Int) : Nat → Nat → List UInt8
  | 0, k => cand num k
  | f + 1, k => if cand num k ∈ ids then freeK ids num f (k + 1) else cand num k
/-- a name that no tuple has yet -/
def freeS (ids : List (List UInt8)) (num : Int) (i : List UInt8) : List UInt8 := if i ∈ ids then freeK cand ids num ids.length 1 else i
structure Mix where
  out : List Tup
  seen : List Tup
  notes : List (List UInt8)
  known : List (List UInt8)
def mix0 : Mix := ⟨[], [], [], []⟩
def addT (num : Int) (m : Mix) (t : Tup) : Mix :=
  if t ∈ m.seen ∨ 16 ≤ m.out.length then ⟨m.out, m.seen ++ [t], m.notes, m.known⟩
  else ⟨m.out ++ [t.as (freeS cand (m.out.map Tup.id) num t.id)], m.seen ++ [t], m.notes, m.known⟩
def addN (m : Mix) (s : List UInt8) : Mix :=
  if s ∈ m.known ∨ 16 ≤ m.notes.length then ⟨m.out, m.seen, m.notes, m.known ++ [s]⟩ else ⟨m.out, m.seen, m.notes ++ [s], m.known ++ [s]⟩
def addP (m : Mix) (p : Pb) : Mix := p.doc.notes.foldl addN (p.doc.tups.foldl (addT cand p.num) m)
def mixS (l : List Pb) : Mix := l.foldl (addP cand) mix0
def chkP : Int → List Pb → Int
  | _, [] => 0
  | last, p :: r => if p.num ≤ last then 1 else if okD p.doc = false then 140 else chkP p.num r
/-- what publications are together, or what is wrong with them -/
def composeS (who : List UInt8) (l : List Pb) : Doc × Int :=
  if okD ⟨who, [], []⟩ = false then (doc0, 140) else if chkP okD 0 l ≠ 0 then (doc0, chkP okD 0 l) else (⟨who, (mixS cand l).out, (mixS cand l).notes⟩, 0)

/-! what stays -/
theorem addN_out (L : List (List UInt8)) : ∀ m : Mix, (L.foldl addN m).out = m.out ∧ (L.foldl addN m).seen = m.seen := by
  induction L with
  | nil => exact fun m => ⟨rfl, rfl⟩
  | cons s r ih =>
    intro m
    rw [List.foldl_cons]
    obtain ⟨h1, h2⟩ := ih (addN m s)
    have : (addN m s).out = m.out ∧ (addN m s).seen = m.seen := by unfold addN; split <;> exact ⟨rfl, rfl⟩
    exact ⟨h1.trans this.1, h2.trans this.2⟩
theorem addT_notes (num : Int) (L : List Tup) : ∀ m : Mix, (L.foldl (addT cand num) m).notes = m.notes ∧ (L.foldl (addT cand num) m).known = m.known := by
  induction L with
  | nil => exact fun m => ⟨rfl, rfl⟩
  | cons s r ih =>
    intro m
    rw [List.foldl_cons]
    obtain ⟨h1, h2⟩ := ih (addT cand num m s)
    have : (addT cand num m s).notes = m.notes ∧ (addT cand num m s).known = m.known := by unfold addT; split <;> exact ⟨rfl, rfl⟩
    exact ⟨h1.trans this.1, h2.trans this.2⟩
theorem addT_pre (num : Int) (L : List Tup) : ∀ m : Mix, ∃ r, (L.foldl (addT cand num) m).out = m.out ++ r := by
  induction L with
  | nil => exact fun m => ⟨[], by simp⟩
  | cons s r ih =>
    intro m
    rw [List.foldl_cons]
    obtain ⟨x, hx⟩ := ih (addT cand num m s)
    have : ∃ y, (addT cand num m s).out = m.out ++ y := by
      unfold addT; split
      · exact ⟨[], by simp⟩
      · exact ⟨_, rfl⟩
    obtain ⟨y, hy⟩ := this
    exact ⟨y ++ x, by rw [hx, hy, List.append_assoc]⟩
theorem addN_pre (L : List (List UInt8)) : ∀ m : Mix, ∃ r, (L.foldl addN m).notes = m.notes ++ r := by
  induction L with
  | nil => exact fun m => ⟨[], by simp⟩
  | cons s r ih =>
    intro m
    rw [List.foldl_cons]
    obtain ⟨x, hx⟩ := ih (addN m s)
    have : ∃ y, (addN m s).notes = m.notes ++ y := by
      unfold addN; split
      · exact ⟨[], by simp⟩
      · exact ⟨_, rfl⟩
    obtain ⟨y, hy⟩ := this
    exact ⟨y ++ x, by rw [hx, hy, List.append_assoc]⟩
theorem addP_pre (m : Mix) (p : Pb) : (∃ r, (addP cand m p).out = m.out ++ r) ∧ (∃ r, (addP cand m p).notes = m.notes ++ r) := by
  unfold addP
  obtain ⟨r, hr⟩ := addT_pre cand p.num p.doc.tups m
  obtain ⟨x, hx⟩ := addN_pre p.doc.notes (p.doc.tups.foldl (addT cand p.num) m)
  exact ⟨⟨r, by rw [(addN_out _ _).1, hr]⟩, ⟨x, by rw [hx, (addT_notes cand _ _ _).1]⟩⟩
theorem mix_pre (l : List Pb) : ∀ m : Mix, (∃ r, (l.foldl (addP cand) m).out = m.out ++ r) ∧ (∃ r, (l.foldl (addP cand) m).notes = m.notes ++ r) := by
  induction l with
  | nil => exact fun m => ⟨⟨[], by simp⟩, ⟨[], by simp⟩⟩
  | cons p r ih =>
    intro m
    rw [List.foldl_cons]
    obtain ⟨⟨x, hx⟩, ⟨y, hy⟩⟩ := ih (addP cand m p)
    obtain ⟨⟨a, ha⟩, ⟨b, hb⟩⟩ := addP_pre cand m p
    exact ⟨⟨a ++ x, by rw [hx, ha, List.append_assoc]⟩, ⟨b ++ y, by rw [hy, hb, List.append_assoc]⟩⟩
theorem chk_front (l r : List Pb) : ∀ last, chkP okD last (l ++ r) = 0 → chkP okD last l = 0 := by
  induction l with
  | nil => exact fun _ _ => rfl
  | cons p t ih =>
    intro last h
    rw [List.cons_append, chkP] at h
    rw [chkP]
    by_cases h1 : p.num ≤ last
    · rw [if_pos h1] at h; cases h
    rw [if_neg h1] at h ⊢
    by_cases h2 : okD p.doc = false
    · rw [if_pos h2] at h; cases h
    rw [if_neg h2] at h ⊢
    exact ih _ h
/-- the law Behind -/
theorem compose_front (who : List UInt8) (l : List Pb) (k : Nat) (h : (composeS cand okD who l).2 = 0) :
    (composeS cand okD who (l.take k)).2 = 0 ∧ (composeS cand okD who (l.take k)).1.ent = who ∧ ∃ a b, (composeS cand okD who l).1.tups = (composeS cand okD who (l.take k)).1.tups ++ a ∧ (composeS cand okD who l).1.notes = (composeS cand okD who (l.take k)).1.notes ++ b := by
  unfold composeS at h ⊢
  by_cases h1 : okD ⟨who, [], []⟩ = false
  · rw [if_pos h1] at h; cases h
  rw [if_neg h1] at h
  rw [if_neg h1, if_neg h1]
  by_cases h2 : chkP okD 0 l ≠ 0
  · rw [if_pos h2] at h; exact absurd h h2
  have h3 : chkP okD 0 (l.take k) = 0 := chk_front okD (l.take k) (l.drop k) 0 (by rw [List.take_append_drop]; exact Classical.not_not.1 h2)
  rw [if_neg h2, if_neg (fun h => h h3)]
  obtain ⟨⟨a, ha⟩, ⟨b, hb⟩⟩ := mix_pre cand (l.drop k) (mixS cand (l.take k))
  have e : mixS cand l = (l.drop k).foldl (addP cand) (mixS cand (l.take k)) := by
    unfold mixS
    rw [← List.foldl_append, List.take_append_drop]
  exact ⟨rfl, rfl, a, b, by rw [e]; exact ha, by rw [e]; exact hb⟩

/-! nothing new -/
theorem addT_seen (num : Int) (L : List Tup) : ∀ m : Mix, (L.foldl (addT cand num) m).seen = m.seen ++ L := by
  induction L with
  | nil => exact fun m => by simp
  | cons s r ih =>
    intro m
    rw [List.foldl_cons, ih]
    have : (addT cand num m s).seen = m.seen ++ [s] := by unfold addT; split <;> rfl
    rw [this]; simp
theorem addN_known (L : List (List UInt8)) : ∀ m : Mix, (L.foldl addN m).known = m.known ++ L := by
  induction L with
  | nil => exact fun m => by simp
  | cons s r ih =>
    intro m
    rw [List.foldl_cons, ih]
    have : (addN m s).known = m.known ++ [s] := by unfold addN; split <;> rfl
    rw [this]; simp
theorem addP_seen (m : Mix) (p : Pb) : (addP cand m p).seen = m.seen ++ p.doc.tups ∧ (addP cand m p).known = m.known ++ p.doc.notes := by
  unfold addP
  exact ⟨by rw [(addN_out _ _).2, addT_seen], by rw [addN_known, (addT_notes cand _ _ _).2]⟩
theorem mix_seen (l : List Pb) : ∀ m : Mix, (l.foldl (addP cand) m).seen = m.seen ++ l.flatMap (fun p => p.doc.tups) ∧ (l.foldl (addP cand) m).known = m.known ++ l.flatMap (fun p => p.doc.notes) := by
  induction l with
  | nil => exact fun m => by simp
  | cons p r ih =>
    intro m
    rw [List.foldl_cons]
    obtain ⟨h1, h2⟩ := ih (addP cand m p)
    obtain ⟨h3, h4⟩ := addP_seen cand m p
    rw [h1, h2, h3, h4]; simp
theorem addT_old (num : Int) (L : List Tup) : ∀ m : Mix, (∀ t ∈ L, t ∈ m.seen) → (L.foldl (addT cand num) m).out = m.out := by
  induction L with
  | nil => exact fun m _ => rfl
  | cons s r ih =>
    intro m h
    rw [List.foldl_cons]
    have e : addT cand num m s = ⟨m.out, m.seen ++ [s], m.notes, m.known⟩ := by unfold addT; rw [if_pos (.inl (h s (List.mem_cons_self ..)))]
    rw [e]
    exact ih _ (fun t ht => List.mem_append_left _ (h t (List.mem_cons_of_mem _ ht)))
theorem addN_old (L : List (List UInt8)) : ∀ m : Mix, (∀ t ∈ L, t ∈ m.known) → (L.foldl addN m).notes = m.notes := by
  induction L with
  | nil => exact fun m _ => rfl
  | cons s r ih =>
    intro m h
    rw [List.foldl_cons]
    have e : addN m s = ⟨m.out, m.seen, m.notes, m.known ++ [s]⟩ := by unfold addN; rw [if_pos (.inl (h s (List.mem_cons_self ..)))]
    rw [e]
    exact ih _ (fun t ht => List.mem_append_left _ (h t (List.mem_cons_of_mem _ ht)))
theorem chk_docs (l : List Pb) : ∀ last, chkP okD last l = 0 → ∀ p ∈ l, okD p.doc = true := by
  induction l with
  | nil => exact fun _ _ p hp => by cases hp
  | cons q t ih =>
    intro last h p hp
    rw [chkP] at h
    by_cases h1 : q.num ≤ last
    · rw [if_pos h1] at h; cases h
    rw [if_neg h1] at h
    by_cases h2 : okD q.doc = false
    · rw [if_pos h2] at h; cases h
    rw [if_neg h2] at h
    rcases List.mem_cons.1 hp with rfl | hp
    · simpa using h2
    · exact ih _ h p hp
theorem chk_snoc (l : List Pb) (p : Pb) : ∀ last, chkP okD last l = 0 → (∀ q, l.getLast? = some q → q.num < p.num) → (l = [] → last < p.num) → okD p.doc = true → chkP okD last (l ++ [p]) = 0 := by
  induction l with
  | nil =>
    intro last _ _ h0 hd
    have := h0 rfl
    rw [List.nil_append, chkP, if_neg (by omega), if_neg (by rw [hd]; decide)]; rfl
  | cons q t ih =>
    intro last h hl _ hd
    rw [chkP] at h
    rw [List.cons_append, chkP]
    by_cases h1 : q.num ≤ last
    · rw [if_pos h1] at h; cases h
    rw [if_neg h1] at h ⊢
    by_cases h2 : okD q.doc = false
    · rw [if_pos h2] at h; cases h
    rw [if_neg h2] at h ⊢
    refine ih q.num h ?_ ?_ hd
    · intro x hx
      refine hl x ?_
      cases t with
      | nil => cases hx
      | cons a b => rw [List.getLast?_cons_cons]; exact hx
    · rintro rfl
      exact hl q rfl
/-- the law Again -/
theorem compose_again (who : List UInt8) (l : List Pb) (p q : Pb) (h : (composeS cand okD who l).2 = 0) (hp : p ∈ l) (hq : q.doc = p.doc) (hn : ∀ x, l.getLast? = some x → x.num < q.num) :
    composeS cand okD who (l ++ [q]) = composeS cand okD who l := by
  unfold composeS at h ⊢
  by_cases h1 : okD ⟨who, [], []⟩ = false
  · rw [if_pos h1] at h; cases h
  rw [if_neg h1] at h
  rw [if_neg h1, if_neg h1]
  by_cases h2 : chkP okD 0 l ≠ 0
  · rw [if_pos h2] at h; exact absurd h h2
  have h0 := Classical.not_not.1 h2
  have hd : okD q.doc = true := by rw [hq]; exact chk_docs okD l 0 h0 p hp
  have h3 : chkP okD 0 (l ++ [q]) = 0 := chk_snoc okD l q 0 h0 hn (fun e => by rw [e] at hp; cases hp) hd
  rw [if_neg h2, if_neg (fun h => h h3)]
  have e : mixS cand (l ++ [q]) = addP cand (mixS cand l) q := by unfold mixS; rw [List.foldl_append]; rfl
  obtain ⟨s1, s2⟩ := mix_seen cand l mix0
  have t1 : ∀ t ∈ q.doc.tups, t ∈ (mixS cand l).seen := fun t ht => by
    unfold mixS; rw [s1]
    exact List.mem_append_right _ (List.mem_flatMap.2 ⟨p, hp, by rw [← hq]; exact ht⟩)
  have t2 : ∀ t ∈ q.doc.notes, t ∈ (mixS cand l).known := fun t ht => by
    unfold mixS; rw [s2]
    exact List.mem_append_right _ (List.mem_flatMap.2 ⟨p, hp, by rw [← hq]; exact ht⟩)
  rw [e]
  unfold addP
  rw [(addN_out _ _).1, addT_old cand _ _ _ t1, addN_old _ _ (by rw [(addT_notes cand _ _ _).2]; exact t2), (addT_notes cand _ _ _).1]
end

/-! each once -/
def dedGo {α : Type} [DecidableEq α] (acc : List α) : List α → List α
  | [] => acc
  | t :: r => if t ∈ acc then dedGo acc r else dedGo (acc ++ [t]) r
theorem dedGo_snoc {α : Type} [DecidableEq α] (L : List α) (t : α) : ∀ acc, dedGo acc (L ++ [t]) = if t ∈ dedGo acc L then dedGo acc L else dedGo acc L ++ [t] := by
  induction L with
  | nil => intro acc; rw [List.nil_append, dedGo, dedGo, dedGo, dedGo]
  | cons s r ih =>
    intro acc
    rw [List.cons_append, dedGo, dedGo]
    split <;> exact ih _
theorem dedGo_mem {α : Type} [DecidableEq α] (L : List α) (x : α) : ∀ acc, x ∈ dedGo acc L ↔ x ∈ acc ∨ x ∈ L := by
  induction L with
  | nil => intro acc; simp [dedGo]
  | cons s r ih =>
    intro acc
    rw [dedGo]
    split
    · rename_i h
      rw [ih]
      constructor
      · rintro (h1 | h1)
        · exact .inl h1
        · exact .inr (List.mem_cons_of_mem _ h1)
      · rintro (h1 | h1)
        · exact .inl h1
        · rcases List.mem_cons.1 h1 with rfl | h1
          · exact .inl h
          · exact .inr h1
    · rw [ih, List.mem_append, List.mem_singleton, List.mem_cons]
      constructor
      · rintro ((h | h) | h)
        · exact .inl h
        · exact .inr (.inl h)
        · exact .inr (.inr h)
      · rintro (h | h | h)
        · exact .inl (.inl h)
        · exact .inl (.inr h)
        · exact .inr h
theorem apart_le {α : Type} [DecidableEq α] : ∀ (L M : List α), L.Pairwise (· ≠ ·) → (∀ x ∈ L, x ∈ M) → L.length ≤ M.length
  | [], M, _, _ => Nat.zero_le _
  | x :: r, M, h, hs => by
    obtain ⟨h1, h2⟩ := List.pairwise_cons.1 h
    have hx := hs x (List.mem_cons_self ..)
    have := apart_le r (M.erase x) h2 (fun y hy => (List.mem_erase_of_ne (fun e => h1 y hy e.symm)).2 (hs y (List.mem_cons_of_mem _ hy)))
    rw [List.length_erase_of_mem hx] at this
    have hp := List.length_pos_of_mem hx
    rw [List.length_cons]; omega
section
variable (cand : Int → Nat → List UInt8) (okD : Doc → Bool) (hinj : ∀ n j k, cand n j = cand n k → j = k)
include hinj
theorem freeK_not (ids : List (List UInt8)) (num : Int) : ∀ (f k : Nat), (∀ j, 1 ≤ j → j < k → cand num j ∈ ids) → ids.length < k + f → 1 ≤ k → freeK cand ids num f k ∉ ids
  | 0, k, h, hk, h1 => by
    intro hm
    have := apart_le ((List.range' 1 k).map (cand num)) ids (by
      rw [List.pairwise_map]
      exact (List.nodup_range' (s := 1) (n := k) (step := 1)).imp (fun {a b} hne e => hne (hinj num a b e))) (by
      intro x hx
      obtain ⟨j, hj, rfl⟩ := List.mem_map.1 hx
      rw [List.mem_range'_1] at hj
      by_cases e : j = k
      · rw [e]; exact hm
      · exact h j hj.1 (by omega))
    rw [List.length_map, List.length_range'] at this
    omega
  | f + 1, k, h, hk, h1 => by
    rw [freeK]
    split
    · rename_i hm
      refine freeK_not ids num f (k + 1) (fun j hj hjk => ?_) (by omega) (by omega)
      by_cases e : j = k
      · rw [e]; exact hm
      · exact h j hj (by omega)
    · rename_i hm; exact hm
theorem freeS_not (ids : List (List UInt8)) (num : Int) (i : List UInt8) : freeS cand ids num i ∉ ids := by
  unfold freeS
  split
  · exact freeK_not cand hinj ids num ids.length 1 (fun j h1 h2 => by omega) (by omega) (Nat.le_refl _)
  · rename_i h; exact h
/-- how the tuples taken in stand to those that were published -/
def Inv (m : Mix) : Prop :=
  m.out.length = min 16 (dedGo [] m.seen).length ∧ (∀ i (h : i < m.out.length) (h2 : i < (dedGo [] m.seen).length), (dedGo [] m.seen)[i].as m.out[i].id = m.out[i]) ∧ (m.out.map Tup.id).Pairwise (· ≠ ·)
omit hinj in
theorem inv0 : Inv mix0 := ⟨rfl, fun i h => absurd h (Nat.not_lt_zero _), List.Pairwise.nil⟩
theorem addT_inv (num : Int) (m : Mix) (t : Tup) (h : Inv m) : Inv (addT cand num m t) := by
  obtain ⟨h1, h2, h3⟩ := h
  have hs := dedGo_snoc m.seen t []
  have hm := dedGo_mem m.seen t []
  unfold addT
  by_cases hc : t ∈ m.seen ∨ 16 ≤ m.out.length
  · rw [if_pos hc]
    unfold Inv
    dsimp only
    rw [hs]
    by_cases ht : t ∈ dedGo [] m.seen
    · rw [if_pos ht]; exact ⟨h1, h2, h3⟩
    · rw [if_neg ht]
      have h16 : 16 ≤ m.out.length := by
        rcases hc with h | h
        · exact absurd (hm.2 (.inr h)) ht
        · exact h
      refine ⟨by rw [List.length_append]; simp only [List.length_cons, List.length_nil]; omega, fun i hi hi2 => ?_, h3⟩
      have hlt : i < (dedGo [] m.seen).length := by omega
      rw [List.getElem_append_left hlt]
      exact h2 i hi hlt
  · rw [if_neg hc]
    have hns : t ∉ m.seen := fun h => hc (.inl h)
    have hl : ¬ 16 ≤ m.out.length := fun h => hc (.inr h)
    have ht : t ∉ dedGo [] m.seen := fun h => by
      rcases hm.1 h with h | h
      · cases h
      · exact hns h
    unfold Inv
    dsimp only
    rw [hs, if_neg ht]
    have hlen : m.out.length = (dedGo [] m.seen).length := by omega
    refine ⟨by rw [List.length_append, List.length_append]; simp only [List.length_cons, List.length_nil]; omega, fun i hi hi2 => ?_, ?_⟩
    · by_cases e : i < m.out.length
      · rw [List.getElem_append_left (by omega), List.getElem_append_left e]
        exact h2 i e (by omega)
      · rw [List.length_append] at hi
        simp only [List.length_cons, List.length_nil] at hi
        have : i = m.out.length := by omega
        subst this
        rw [List.getElem_append_right (by omega), List.getElem_append_right (by omega)]
        simp [hlen, Tup.as]
    · rw [List.map_append, List.pairwise_append]
      refine ⟨h3, by simp, fun a ha b hb => ?_⟩
      simp only [List.map_cons, List.map_nil, List.mem_singleton] at hb
      subst hb
      intro e
      exact freeS_not cand hinj (m.out.map Tup.id) num t.id (by rw [show freeS cand (m.out.map Tup.id) num t.id = a from e.symm]; exact ha)
theorem addTs_inv (num : Int) (L : List Tup) : ∀ m : Mix, Inv m → Inv (L.foldl (addT cand num) m) := by
  induction L with
  | nil => exact fun m h => h
  | cons s r ih => intro m h; rw [List.foldl_cons]; exact ih _ (addT_inv cand hinj num m s h)
theorem addP_inv (m : Mix) (p : Pb) (h : Inv m) : Inv (addP cand m p) := by
  have := addTs_inv cand hinj p.num p.doc.tups m h
  unfold addP
  unfold Inv at this ⊢
  rw [(addN_out _ _).1, (addN_out _ _).2]; exact this
theorem mix_inv (l : List Pb) : ∀ m : Mix, Inv m → Inv (l.foldl (addP cand) m) := by
  induction l with
  | nil => exact fun m h => h
  | cons p r ih => intro m h; rw [List.foldl_cons]; exact ih _ (addP_inv cand hinj m p h)
/-- the law Own: with 'all' each tuple once -/
theorem compose_own (who : List UInt8) (l : List Pb) (h : (composeS cand okD who l).2 = 0) (A : List Tup) (hA : A = dedGo [] (l.flatMap fun p => p.doc.tups)) :
    (composeS cand okD who l).1.tups.length = min 16 A.length ∧ (∀ i (h : i < (composeS cand okD who l).1.tups.length) (h2 : i < A.length), A[i].as (composeS cand okD who l).1.tups[i].id = (composeS cand okD who l).1.tups[i]) ∧ ((composeS cand okD who l).1.tups.map Tup.id).Pairwise (· ≠ ·) := by
  have hi := mix_inv cand hinj l mix0 inv0
  obtain ⟨s1, _⟩ := mix_seen cand l mix0
  have e : (composeS cand okD who l).1.tups = (mixS cand l).out := by
    unfold composeS at h ⊢
    by_cases h1 : okD ⟨who, [], []⟩ = false
    · rw [if_pos h1] at h; cases h
    rw [if_neg h1] at h ⊢
    by_cases h2 : chkP okD 0 l ≠ 0
    · rw [if_pos h2] at h; exact absurd h h2
    rw [if_neg h2]
  have e2 : (mixS cand l).seen = l.flatMap fun p => p.doc.tups := by unfold mixS; rw [s1]; rfl
  unfold Inv at hi
  rw [show l.foldl (addP cand) mix0 = mixS cand l from rfl, e2, ← hA] at hi
  rw [e]
  exact hi
end
section
variable (cand : Int → Nat → List UInt8) (okD : Doc → Bool)
theorem addT_all (num : Int) (L : List Tup) : ∀ m : Mix, m.seen = m.out → ((m.out ++ L).map Tup.id).Pairwise (· ≠ ·) → (m.out ++ L).length ≤ 16 → (L.foldl (addT cand num) m).out = m.out ++ L := by
  induction L with
  | nil => intro m _ _ _; simp
  | cons t r ih =>
    intro m hs hp hl
    rw [List.foldl_cons]
    have hid : t.id ∉ m.out.map Tup.id := by
      intro h
      rw [List.map_append, List.pairwise_append] at hp
      exact hp.2.2 t.id h t.id (by simp) rfl
    have hns : t ∉ m.seen := by rw [hs]; exact fun h => hid (List.mem_map_of_mem h)
    have hlt : ¬ 16 ≤ m.out.length := by rw [List.length_append, List.length_cons] at hl; omega
    have e : addT cand num m t = ⟨m.out ++ [t], m.seen ++ [t], m.notes, m.known⟩ := by
      unfold addT
      rw [if_neg (by rintro (h | h); exact hns h; exact hlt h)]
      unfold freeS
      rw [if_neg hid]; rfl
    rw [e, ih _ (by dsimp only; rw [hs]) (by dsimp only; rw [List.append_assoc]; exact hp) (by dsimp only; rw [List.append_assoc]; exact hl)]
    simp
theorem addN_all (L : List (List UInt8)) : ∀ m : Mix, m.notes = dedGo [] m.known → m.known.length + L.length ≤ 16 → (L.foldl addN m).notes = dedGo [] (m.known ++ L) := by
  induction L with
  | nil => intro m h _; rw [List.append_nil]; exact h
  | cons s r ih =>
    intro m h hl
    rw [List.foldl_cons]
    rw [List.length_cons] at hl
    have hlen : ∀ (acc L : List (List UInt8)), (dedGo acc L).length ≤ acc.length + L.length := by
      intro acc L
      induction L generalizing acc with
      | nil => simp [dedGo]
      | cons a b ih2 =>
        rw [dedGo]
        split
        · have := ih2 acc; rw [List.length_cons]; omega
        · have := ih2 (acc ++ [a]); rw [List.length_append] at this; simp at this; rw [List.length_cons]; omega
    have hn16 : ¬ 16 ≤ m.notes.length := by rw [h]; have := hlen [] m.known; simp at this; omega
    have hs := dedGo_snoc m.known s []
    have hm := dedGo_mem m.known s []
    have e : (addN m s).notes = dedGo [] (m.known ++ [s]) ∧ (addN m s).known = m.known ++ [s] := by
      unfold addN
      by_cases hk : s ∈ m.known
      · rw [if_pos (.inl hk), hs, if_pos (hm.2 (.inr hk))]; exact ⟨h, rfl⟩
      · rw [if_neg (by rintro (x | x); exact hk x; exact hn16 x), hs, if_neg (fun x => by rcases hm.1 x with x | x; cases x; exact hk x)]
        exact ⟨by dsimp only; rw [h], rfl⟩
    rw [ih _ (by rw [e.1, e.2]) (by rw [e.2, List.length_append]; simp; omega), e.2, List.append_assoc]; rfl
/-- the law Alone -/
theorem compose_alone (who : List UInt8) (p : Pb) (h : (composeS cand okD who [p]).2 = 0) (hid : okD p.doc = true → (p.doc.tups.map Tup.id).Pairwise (· ≠ ·) ∧ p.doc.tups.length ≤ 16 ∧ p.doc.notes.length ≤ 16) :
    (composeS cand okD who [p]).1 = ⟨who, p.doc.tups, dedGo [] p.doc.notes⟩ := by
  unfold composeS at h ⊢
  by_cases h1 : okD ⟨who, [], []⟩ = false
  · rw [if_pos h1] at h; cases h
  rw [if_neg h1] at h ⊢
  by_cases h2 : chkP okD 0 [p] ≠ 0
  · rw [if_pos h2] at h; exact absurd h h2
  rw [if_neg h2]
  have hd := chk_docs okD [p] 0 (Classical.not_not.1 h2) p (List.mem_singleton.2 rfl)
  obtain ⟨i1, i2, i3⟩ := hid hd
  have e1 : (mixS cand [p]).out = p.doc.tups := by
    show (addP cand mix0 p).out = _
    unfold addP
    rw [(addN_out _ _).1, addT_all cand p.num p.doc.tups mix0 rfl (by exact i1) (by exact i2)]; rfl
  have e2 : (mixS cand [p]).notes = dedGo [] p.doc.notes := by
    show (addP cand mix0 p).notes = _
    unfold addP
    obtain ⟨n1, n2⟩ := addT_notes cand p.num p.doc.tups mix0
    rw [addN_all _ _ (by rw [n1, n2]; rfl) (by rw [n2]; show 0 + _ ≤ 16; omega), n2]; rfl
  rw [e1, e2]
end

/-! the search for a free name, round by round -/
section
variable (cand : Int → Nat → List UInt8) (hinj : ∀ n j k, cand n j = cand n k → j = k)
def freeR (ids : List (List UInt8)) (num : Int) (k : Nat) (i : List UInt8) : List UInt8 := if i ∈ ids then freeK cand ids num (ids.length + 1 - k) k else i
theorem freeR_start (ids : List (List UInt8)) (num : Int) (i : List UInt8) : freeS cand ids num i = freeR cand ids num 1 i := rfl
theorem freeR_end (ids : List (List UInt8)) (num : Int) (k : Nat) (i : List UInt8) (h : i ∉ ids) : freeR cand ids num k i = i := if_neg h
/-- what is known ahead of round k, with the name i at hand -/
def FreeAt (ids : List (List UInt8)) (num : Int) (k : Nat) (i : List UInt8) : Prop := 1 ≤ k ∧ (∀ j, 1 ≤ j → j + 1 < k → cand num j ∈ ids) ∧ (2 ≤ k → i = cand num (k - 1))
theorem freeAt_start (ids : List (List UInt8)) (num : Int) (i : List UInt8) : FreeAt cand ids num 1 i := ⟨Nat.le_refl _, fun j h1 h2 => by omega, fun h => by omega⟩
theorem freeAt_next {ids : List (List UInt8)} {num : Int} {k : Nat} {i : List UInt8} (h : FreeAt cand ids num k i) (hi : i ∈ ids) : FreeAt cand ids num (k + 1) (cand num k) ∧ ∀ j, 1 ≤ j → j < k → cand num j ∈ ids := by
  obtain ⟨h1, h2, h3⟩ := h
  have hall : ∀ j, 1 ≤ j → j < k → cand num j ∈ ids := fun j hj hk => by
    by_cases e : j + 1 = k
    · have := h3 (by omega)
      rw [show k - 1 = j by omega] at this
      rw [← this]; exact hi
    · exact h2 j hj (by omega)
  exact ⟨⟨by omega, fun j hj hk => hall j hj (by omega), fun _ => by simp⟩, hall⟩
include hinj
theorem free_le {ids : List (List UInt8)} {num : Int} {k : Nat} (h : ∀ j, 1 ≤ j → j < k → cand num j ∈ ids) (hk : 1 ≤ k) : k ≤ ids.length + 1 := by
  have := apart_le ((List.range' 1 (k - 1)).map (cand num)) ids (by
    rw [List.pairwise_map]
    exact (List.nodup_range' (s := 1) (n := k - 1) (step := 1)).imp (fun {a b} hne e => hne (hinj num a b e))) (by
    intro x hx
    obtain ⟨j, hj, rfl⟩ := List.mem_map.1 hx
    rw [List.mem_range'_1] at hj
    exact h j hj.1 (by omega))
  rw [List.length_map, List.length_range'] at this
  omega
theorem freeR_next {ids : List (List UInt8)} {num : Int} {k : Nat} {i : List UInt8} (h : FreeAt cand ids num k i) (hi : i ∈ ids) : k ≤ ids.length + 1 ∧ freeR cand ids num k i = freeR cand ids num (k + 1) (cand num k) := by
  obtain ⟨_, hall⟩ := freeAt_next cand h hi
  have hk := free_le cand hinj hall h.1
  refine ⟨hk, ?_⟩
  unfold freeR
  rw [if_pos hi]
  by_cases e : k ≤ ids.length
  · rw [show ids.length + 1 - k = (ids.length - k) + 1 by omega, freeK, show ids.length + 1 - (k + 1) = ids.length - k by omega]
  · have e2 : k = ids.length + 1 := by omega
    have hn : cand num k ∉ ids := by
      have := freeK_not cand hinj ids num 0 k hall (by omega) h.1
      rwa [freeK] at this
    rw [if_neg hn, show ids.length + 1 - k = 0 by omega, freeK]
end

end Go.Proofs.YtbljmjbialinkaaDoor
