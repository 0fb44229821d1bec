/-
  DialogEnds: the plain law.
-/
import Derived.Test.YtipdiddjhimdcaaGreatDoorNt
import Derived.Test.YtipdiddjhimdcaaGreatDoorB19
namespace Go.Proofs.YtipdiddjhimdcaaGreatDoor
set_option linter.unusedSimpArgs false
set_option linter.unusedVariables false
open Go.RowKit Go.Sort


def dE (n : Int) : Dlg := ⟨d0A.call, d0A.loc, d0A.rem, d0A.tgt, [], d0A.lin, n⟩
def lHome : List UInt8 := [112, 97, 46, 104, 111, 109, 101]
def lBr : List UInt8 := [122, 57, 104, 71, 52, 98, 75, 49]
def cU : List UInt8 := (printU d0A.tgt).1
def cV : List UInt8 := (printV (hopN lHome lBr)).1
def cA : List UInt8 := (printA d0A.loc).1
def cB : List UInt8 := (printA d0A.rem).1
theorem firstS_heads (m : Mg) : firstS m = firstS ⟨m.method, m.target, m.status, m.reason, [], []⟩ := rfl
theorem ends_e : firstE [(printU d0A.tgt).2, (printV (hopN lHome lBr)).2, (printA d0A.loc).2, (printA d0A.rem).2] = 0 := by decide +kernel
theorem val_seq (n : Int) (h : 0 ≤ n) : valS (digits n ++ 32 :: nNotify) = true := by
  have hd := digits_all n
  have hne := digits_ne n h
  have hv : (digits n).all vis = true := by
    rw [List.all_eq_true] at hd ⊢
    exact fun c hc => (dig_facts c (hd c hc)).2.2
  unfold valS visS
  rw [List.all_append, hv, show (32 :: nNotify).all vis = true by decide]
  have ht : trim (digits n ++ 32 :: nNotify) = digits n ++ 32 :: nNotify := by
    refine trim_self _ (fun c hc => (dig_ends _ hd).1 c ?_) (fun c hc => ?_)
    · cases hq : digits n with
      | nil => exact absurd hq hne
      | cons x r => rw [hq] at hc; exact hc
    · rw [show (digits n ++ 32 :: nNotify).getLast? = some 89 by rw [List.getLast?_append]; rfl] at hc
      injection hc with hc; subst hc; decide
  rw [ht]; simp
theorem seq_in (n : Int) (h0 : 0 ≤ n) (h1 : n ≤ 2147483647) : cseqS n nNotify = (digits n ++ 32 :: nNotify, 0) := by
  unfold cseqS
  rw [if_neg]
  rintro (h | h | h)
  · omega
  · omega
  · exact absurd h (by decide)
theorem ends_text (n : Int) (h0 : 0 ≤ n) (h1 : n < 2147483647) : ∃ t, notifyS (dE n) lHome lBr [] [] = (t, dE (n + 1), 0) ∧ 100 < t.length := by
  rcases notifyS_cases (dE n) lHome lBr [] [] _ _ _ _ rfl rfl rfl rfl with ⟨h, _⟩ | ⟨_, h, _⟩ | ⟨_, _, h, _⟩ | ⟨_, _, _, e⟩
  · exact absurd (show n < 0 from h) (by omega)
  · exact absurd (show 2147483647 ≤ n from h) (by omega)
  · exact absurd ends_e h
  have hs := seq_in (n + 1) (by omega) (by omega)
  have hv := val_seq (n + 1) (by omega)
  have hl := digits_len (n + 1)
  obtain ⟨v, hvv⟩ : ∃ v, v = digits (n + 1) ++ 32 :: nNotify := ⟨_, rfl⟩
  rw [← hvv] at hs hv
  have hlv : v.length ≤ 27 := by rw [hvv]; simp [nNotify]; omega
  clear hvv hl
  have hm : msgN (printU (dE n).tgt).1 (printV (hopN lHome lBr)).1 (printA (dE n).loc).1 (printA (dE n).rem).1 (dE n) lHome [] [] = ⟨nNotify, cU, 0, [], [⟨nVia, cV⟩, ⟨nMaxF, n70⟩, ⟨nFrom, cA⟩, ⟨nTo, cB⟩, ⟨nCallId, [57]⟩, ⟨nCSeq, v⟩, ⟨nContact, sipA lHome⟩], []⟩ := by
    unfold msgN
    rw [show (cseqS ((dE n).lout + 1) nNotify).1 = v by rw [show (dE n).lout = n from rfl, hs]]
    rfl
  rw [hm] at e
  have hc : checkS ⟨nNotify, cU, 0, [], [⟨nVia, cV⟩, ⟨nMaxF, n70⟩, ⟨nFrom, cA⟩, ⟨nTo, cB⟩, ⟨nCallId, [57]⟩, ⟨nCSeq, v⟩, ⟨nContact, sipA lHome⟩], []⟩ = 0 := by
    unfold checkS
    rw [firstS_heads, show firstS ⟨nNotify, cU, 0, [], [], []⟩ = true by decide +kernel, if_neg (by decide), if_neg (by show ¬ 64 < 7; decide), if_neg]
    have hb : badH ⟨nCSeq, v⟩ = false := by
      unfold badH
      dsimp only
      rw [hv, show token nCSeq = true by decide, show (longS nCSeq == nCSeq) = true by decide +kernel, show isLen nCSeq = false by decide +kernel]; rfl
    simp only [List.any_cons, List.any_nil, hb, show badH ⟨nVia, cV⟩ = false by decide +kernel, show badH ⟨nMaxF, n70⟩ = false by decide +kernel, show badH ⟨nFrom, cA⟩ = false by decide +kernel, show badH ⟨nTo, cB⟩ = false by decide +kernel, show badH ⟨nCallId, [57]⟩ = false by decide +kernel, show badH ⟨nContact, sipA lHome⟩ = false by decide +kernel]
    decide
  have lU : cU.length = 12 := by decide +kernel
  have lV : cV.length = 35 := by decide +kernel
  have lA : cA.length = 15 := by decide +kernel
  have lB : cB.length = 15 := by decide +kernel
  have lS : (sipA lHome).length = 13 := by decide +kernel
  have lT : (textM ⟨nNotify, cU, 0, [], [⟨nVia, cV⟩, ⟨nMaxF, n70⟩, ⟨nFrom, cA⟩, ⟨nTo, cB⟩, ⟨nCallId, [57]⟩, ⟨nCSeq, v⟩, ⟨nContact, sipA lHome⟩], []⟩).length = 198 + v.length := by
    unfold textM startL tailT
    rw [if_neg (by show ¬ nNotify = []; decide)]
    simp only [List.flatMap_cons, List.flatMap_nil, lineH, List.length_append, List.length_cons, List.length_nil, lU, lV, lA, lB, lS]
    simp only [show nNotify.length = 6 from rfl, show ver.length = 7 from rfl, show nVia.length = 3 from rfl, show nMaxF.length = 12 from rfl, show n70.length = 2 from rfl, show nFrom.length = 4 from rfl, show nTo.length = 2 from rfl, show nCallId.length = 7 from rfl, show nCSeq.length = 4 from rfl, show nContact.length = 7 from rfl, show nCLen.length = 14 from rfl, show (digits ((0 : Nat) : Int)).length = 1 by decide +kernel]
    omega
  refine ⟨textM ⟨nNotify, cU, 0, [], [⟨nVia, cV⟩, ⟨nMaxF, n70⟩, ⟨nFrom, cA⟩, ⟨nTo, cB⟩, ⟨nCallId, [57]⟩, ⟨nCSeq, v⟩, ⟨nContact, sipA lHome⟩], []⟩, ?_, by omega⟩
  have hp : printM ⟨nNotify, cU, 0, [], [⟨nVia, cV⟩, ⟨nMaxF, n70⟩, ⟨nFrom, cA⟩, ⟨nTo, cB⟩, ⟨nCallId, [57]⟩, ⟨nCSeq, v⟩, ⟨nContact, sipA lHome⟩], []⟩ = (textM ⟨nNotify, cU, 0, [], [⟨nVia, cV⟩, ⟨nMaxF, n70⟩, ⟨nFrom, cA⟩, ⟨nTo, cB⟩, ⟨nCallId, [57]⟩, ⟨nCSeq, v⟩, ⟨nContact, sipA lHome⟩], []⟩, 0) := by
    unfold printM
    rw [if_neg (fun h => h hc), if_neg (by omega)]
  rw [e, hp]
  rfl
theorem ends_out (n : Int) (h : n < 0 ∨ 2147483647 ≤ n) : notifyS (dE n) lHome lBr [] [] = ([], dE n, 80) := if_pos h
theorem dlgN_0 : DlgN d0A :=
  ⟨⟨⟨by decide, by decide, by decide, fun p hp => (by cases hp), fun p hp => (by cases hp), fun p hp => (by rw [List.mem_singleton.1 hp]; decide), by decide, by decide, by decide⟩, by decide, by decide⟩,
   ⟨⟨by decide, by decide, by decide, fun p hp => (by cases hp), fun p hp => (by cases hp), fun p hp => (by rw [List.mem_singleton.1 hp]; decide), by decide, by decide, by decide⟩, by decide, by decide⟩,
   ⟨by decide, by decide, by decide, by decide, fun p hp => (by cases hp), fun p hp => (by cases hp)⟩, by decide, fun x hx => (by cases hx), by decide⟩
theorem dlgN_E (n : Int) : DlgN (dE n) := ⟨dlgN_0.1, dlgN_0.2.1, dlgN_0.2.2.1, dlgN_0.2.2.2.1, fun x hx => (by cases hx), Nat.zero_le _⟩
theorem RDlg.noB {w : World} {vs : Array Value} {d : Dlg} (h : RDlg w (.agg vs) d) : NoB vs := by
  obtain ⟨u1, u2, u3, u4, u5, u6, u7, u8, u9, e, h1, h2, h3, h4, h5, h6, h7, h8, h9⟩ := h
  injection e with e
  subst e
  obtain ⟨_, _, rfl⟩ := h1.form'
  obtain ⟨_, _, rfl⟩ := h2.form'
  obtain ⟨_, _, rfl⟩ := h3.form'
  obtain ⟨_, _, rfl⟩ := h4.form'
  obtain ⟨_, _, rfl⟩ := h5.form'
  obtain ⟨_, _, rfl⟩ := h6.form'
  obtain ⟨_, _, rfl⟩ := h7.form'
  obtain ⟨_, _, rfl⟩ := h8.form'
  obtain ⟨_, _, rfl⟩ := h9.form9
  rfl
theorem RDlg.apart {w w' : World} {g : Nat} {t : TypeId} {cs vs : Array Value} {d : Dlg} (h : RDlg w (.agg vs) d) (hb : Blk w g t cs) (hn : NoB cs) (hr : d.routes = []) (hh : ∀ k, k ≠ g → w'.heap[k]? = w.heap[k]?) (hs : w.heap.size ≤ w'.heap.size) : RDlg w' (.agg vs) d := by
  obtain ⟨u1, u2, u3, u4, u5, u6, u7, u8, u9, e, h1, h2, h3, h4, h5, h6, h7, h8, h9⟩ := h
  have go : ∀ {v : Value} {L : List Prm}, RPrms w v L → RPrms w' v L := fun h => Off.prms h (Off.noBool h hb hn) hh hs
  have o9 : Off g u9 := by
    rw [hr] at h9
    obtain ⟨_, _, rfl⟩ := h9.form9
    exact Off.zero _ _ _
  exact ⟨u1, u2, u3, u4, u5, u6, u7, u8, u9, e, go h1, go h2, go h3, go h4, go h5, go h6, go h7, go h8, Off.strs h9 o9 hh hs⟩
theorem NoB.set {vs : Array Value} (h : NoB vs) (i : Nat) {x : Value} (hx : isBool x = false) : NoB (vs.setIfInBounds i x) := by
  unfold NoB at h ⊢
  rw [List.all_eq_true] at h ⊢
  intro v hv
  rw [Array.toList_setIfInBounds] at hv
  rcases List.mem_or_eq_of_mem_set hv with g | rfl
  · exact h v g
  · rw [hx]; rfl
theorem set_far (w : World) (p : Addr) (x : Value) (k : Nat) (hk : k ≠ p.block) : (w.setCell p x).heap[k]? = w.heap[k]? := Below.heap_setCell w p x k hk

end Go.Proofs.YtipdiddjhimdcaaGreatDoor
