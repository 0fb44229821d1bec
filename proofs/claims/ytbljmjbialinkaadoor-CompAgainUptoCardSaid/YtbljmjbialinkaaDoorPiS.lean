/-
  Plain Lean, no program in sight: which presence documents may be (chapter 14's Check), and whose they are.
-/
import Derived.Test.YtbljmjbialinkaaDoorCmS
import Derived.Test.YtbljmjbialinkaaDoorUrs
import Derived.Lib.SlTrimSet
import Derived.Lib.Strings
namespace Go.Proofs.YtbljmjbialinkaaDoor
set_option linter.unusedSimpArgs false
set_option linter.unusedVariables false

/-- a sign that may stand in a text -/
def sgn (c : UInt8) : Bool := !((decide (c.toNat < 32) && !(c.toNat == 9) && !(c.toNat == 13) && !(c.toNat == 10)) || c.toNat == 127)
def k4 : List UInt8 := [32, 9, 13, 10]
def textOK (l : List UInt8) : Bool := decide (l.length ≤ 128) && l.all sgn && (Lib.trimS l k4 == l)
def idb (c : UInt8) : Bool := decide (33 ≤ c.toNat) && decide (c.toNat ≤ 126)
def idOK (l : List UInt8) : Bool := !(l == []) && decide (l.length ≤ 64) && l.all idb
def tupOK (t : Tup) : Bool := idOK t.id && textOK t.con && textOK t.note && decide (-1 ≤ t.prio) && decide (t.prio ≤ 1000) && (!(t.con == []) || (t.prio == -1))
def kSipC : List UInt8 := [115, 105, 112, 58]
def kSipN : List UInt8 := [115, 105, 112]
/-- whose a URI is, or what is wrong with it -/
def whoS (u : Uri) : List UInt8 × Bool :=
  if checkU u ≠ 0 ∨ u.user = [] then ([], false)
  else (Lib.trimPrefix (printU ⟨kSipN, u.user, u.host, 0, [], []⟩).1 kSipC, (printU ⟨kSipN, u.user, u.host, 0, [], []⟩).2 == 0)
/-- may a text be somebody's name? -/
def hostW (who : List UInt8) : Bool := (parseU (kSipC ++ who)).2 == 0 && (whoS (parseU (kSipC ++ who)).1).2 && ((whoS (parseU (kSipC ++ who)).1).1 == who)
def apartB : List (List UInt8) → List Tup → Bool
  | _, [] => true
  | ids, t :: r => !(decide (t.id ∈ ids)) && apartB (ids ++ [t.id]) r
def noteOK (n : List UInt8) : Bool := !(n == []) && textOK n
def okDoc (d : Doc) : Bool := hostW d.ent && decide (d.tups.length ≤ 16) && decide (d.notes.length ≤ 16) && d.tups.all tupOK && apartB [] d.tups && d.notes.all noteOK
theorem apartB_pw : ∀ (L : List Tup) (ids : List (List UInt8)), apartB ids L = true → (L.map Tup.id).Pairwise (· ≠ ·) ∧ ∀ t ∈ L, t.id ∉ ids
  | [], _, _ => ⟨List.Pairwise.nil, fun t h => by cases h⟩
  | t :: r, ids, h => by
    rw [apartB, Bool.and_eq_true] at h
    obtain ⟨h1, h2⟩ := apartB_pw r _ h.2
    have h0 : t.id ∉ ids := by simpa using h.1
    refine ⟨?_, fun x hx => ?_⟩
    · rw [List.map_cons, List.pairwise_cons]
      refine ⟨fun a ha e => ?_, h1⟩
      obtain ⟨x, hx, rfl⟩ := List.mem_map.1 ha
      exact h2 x hx (by rw [← e]; simp)
    · rcases List.mem_cons.1 hx with rfl | hx
      · exact h0
      · exact fun hm => h2 x hx (List.mem_append_left _ hm)
theorem okDoc_facts (d : Doc) (h : okDoc d = true) : (d.tups.map Tup.id).Pairwise (· ≠ ·) ∧ d.tups.length ≤ 16 ∧ d.notes.length ≤ 16 := by
  unfold okDoc at h
  simp only [Bool.and_eq_true, decide_eq_true_eq] at h
  obtain ⟨⟨⟨⟨⟨_, h2⟩, h3⟩, _⟩, h5⟩, _⟩ := h
  exact ⟨(apartB_pw _ _ h5).1, h2, h3⟩

end Go.Proofs.YtbljmjbialinkaaDoor
