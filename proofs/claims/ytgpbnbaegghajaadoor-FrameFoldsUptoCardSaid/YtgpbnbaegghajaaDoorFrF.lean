/-
  Plain laws of frames: a header's value broken at a blank; the front of a message.
-/
import Derived.Test.YtgpbnbaegghajaaDoorFrS
namespace Go.Proofs.YtgpbnbaegghajaaDoor
open Go.RowKit

/-- the front of a message: its first headers alone -/
def frontM (m : Mg) (k : Nat) : Mg := { m with hdrs := m.hdrs.take k, body := [] }
theorem bad_take (P : Hdr → Bool) (L : List Hdr) (k : Nat) (h : L.any P = false) : (L.take k).any P = false := by
  rw [List.any_eq_false] at h ⊢
  exact fun x hx => h x (List.mem_of_mem_take hx)
theorem front_check (m : Mg) (k : Nat) (h : checkS m = 0) : checkS (frontM m k) = 0 := by
  obtain ⟨h1, h2, h3⟩ := check_ok m h
  refine check_of _ ?_ ?_ (bad_take _ _ _ h3)
  · have := h1; unfold firstS at this ⊢; exact this
  · show (m.hdrs.take k).length ≤ 64
    rw [List.length_take]; omega
theorem tail_nil : (tailT []).length = 21 := by decide +kernel
theorem digits_pos (n : Int) (h : 0 ≤ n) : 1 ≤ (digits n).length := by
  cases hd : digits n with
  | nil => exact absurd hd (digits_ne n h)
  | cons _ _ => simp
theorem tail_21 (b : List UInt8) : 21 ≤ (tailT b).length := by
  have := digits_pos (b.length : Int) (by omega)
  unfold tailT
  have e : nCLen.length = 14 := rfl
  simp only [List.length_append, List.length_cons, e]
  omega
theorem front_len (m : Mg) (k : Nat) : (textM (frontM m k)).length = (startL m).length + 2 + ((m.hdrs.take k).flatMap lineH).length + 21 := by
  have e : startL (frontM m k) = startL m := rfl
  have e2 : textM (frontM m k) = startL m ++ 13 :: 10 :: ((m.hdrs.take k).flatMap lineH ++ tailT []) := rfl
  rw [e2]
  simp only [List.length_append, List.length_cons, tail_nil]
  omega
theorem hdrs_split (H : List Hdr) (k : Nat) (hk : k < H.length) : H.flatMap lineH = (H.take k).flatMap lineH ++ (lineH H[k] ++ (H.drop (k + 1)).flatMap lineH) := by
  have e : H = H.take k ++ H[k] :: H.drop (k + 1) := by rw [← List.drop_eq_getElem_cons hk, List.take_append_drop]
  have e2 : H.flatMap lineH = (H.take k ++ H[k] :: H.drop (k + 1)).flatMap lineH := by rw [← e]
  rw [e2, List.flatMap_append, List.flatMap_cons]
theorem front_le (m : Mg) (k : Nat) : (textM (frontM m k)).length ≤ (textM m).length := by
  rw [front_len]
  have h2 := tail_21 m.body
  have h3 : ((m.hdrs.take k).flatMap lineH).length ≤ (m.hdrs.flatMap lineH).length := by
    have e : m.hdrs.flatMap lineH = (m.hdrs.take k ++ m.hdrs.drop k).flatMap lineH := by rw [List.take_append_drop]
    rw [e, List.flatMap_append, List.length_append]; omega
  unfold textM
  simp only [List.length_append, List.length_cons]
  omega
/-- what stands ahead of the place where a value is broken -/
def aheadM (m : Mg) (k : Nat) (h : Hdr) (i : Nat) : List UInt8 := startL m ++ 13 :: 10 :: ((m.hdrs.take k).flatMap lineH ++ (h.name ++ 58 :: 32 :: h.value.take i))
theorem ahead_len (m : Mg) (k : Nat) (h : Hdr) (i : Nat) (hi : i ≤ h.value.length) : (aheadM m k h i).length + 21 = (textM (frontM m k)).length + h.name.length + 2 + i := by
  rw [front_len]
  unfold aheadM
  simp only [List.length_append, List.length_cons, List.length_take]
  omega
theorem text_split (m : Mg) (k : Nat) (hk : k < m.hdrs.length) (i : Nat) :
    textM m = aheadM m k m.hdrs[k] i ++ (m.hdrs[k].value.drop i ++ 13 :: 10 :: ((m.hdrs.drop (k + 1)).flatMap lineH ++ tailT m.body)) := by
  have e : m.hdrs[k].value = m.hdrs[k].value.take i ++ m.hdrs[k].value.drop i := (List.take_append_drop ..).symm
  have e2 : lineH m.hdrs[k] = m.hdrs[k].name ++ 58 :: 32 :: (m.hdrs[k].value.take i ++ (m.hdrs[k].value.drop i ++ [13, 10])) := by
    unfold lineH
    rw [← List.append_assoc (m.hdrs[k].value.take i), ← e]
  unfold textM aheadM
  rw [hdrs_split m.hdrs k hk, e2]
  simp
/-- a value that is broken at a blank is parsed as it was -/
theorem fold_back (m : Mg) (hc : checkS m = 0) (k : Nat) (hk : k < m.hdrs.length) (i : Nat) (hi : i + 1 < m.hdrs[k].value.length) (h32 : m.hdrs[k].value[i] = 32) (hn : blank m.hdrs[k].value[i + 1] = false)
    (hl : (textM m).length ≤ 4094) :
    parseS ((textM m).take (aheadM m k m.hdrs[k] i).length ++ 13 :: 10 :: (textM m).drop (aheadM m k m.hdrs[k] i).length) = (m, 0) := by
  have hmain := parse_print m hc [] (by rw [List.append_nil]; omega)
  rw [List.append_nil] at hmain
  have hts := text_split m k hk i
  have e1 : (textM m).take (aheadM m k m.hdrs[k] i).length = aheadM m k m.hdrs[k] i := by rw [hts, List.take_left]
  have e2 : (textM m).drop (aheadM m k m.hdrs[k] i).length = m.hdrs[k].value.drop i ++ 13 :: 10 :: ((m.hdrs.drop (k + 1)).flatMap lineH ++ tailT m.body) := by
    conv => lhs; rw [hts, List.drop_left]
  rw [e1, e2]
  have hlen : (aheadM m k m.hdrs[k] i).length + (m.hdrs[k].value.drop i ++ 13 :: 10 :: ((m.hdrs.drop (k + 1)).flatMap lineH ++ tailT m.body)).length = (textM m).length := by
    conv => rhs; rw [hts, List.length_append]
  obtain ⟨h1, h2, h3⟩ := check_ok m hc
  obtain ⟨f1, f2, f3⟩ := first_line m h1
  have hbk : badH m.hdrs[k] = false := by
    rw [List.any_eq_false] at h3
    simpa using h3 _ (List.getElem_mem hk)
  obtain ⟨g1, g2, g3⟩ := lineT_facts _ hbk
  have hval : visS m.hdrs[k].value = true ∧ trim m.hdrs[k].value = m.hdrs[k].value := by
    unfold badH at hbk
    simp only [Bool.or_eq_false_iff, Bool.not_eq_false'] at hbk
    have := hbk.2
    unfold valS at this
    rw [Bool.and_eq_true] at this
    exact ⟨this.1, eq_of_beq this.2⟩
  -- the two texts' heads
  have key : headGo [] [] (aheadM m k m.hdrs[k] i ++ 13 :: 10 :: (m.hdrs[k].value.drop i ++ 13 :: 10 :: ((m.hdrs.drop (k + 1)).flatMap lineH ++ tailT m.body))) = headGo [] [] (textM m) := by
    have ha : addLine [] (startL m) = [startL m] := by unfold addLine; rw [if_neg (by simp)]; rfl
    have hp : aheadM m k m.hdrs[k] i ++ 13 :: 10 :: (m.hdrs[k].value.drop i ++ 13 :: 10 :: ((m.hdrs.drop (k + 1)).flatMap lineH ++ tailT m.body)) =
        startL m ++ 13 :: 10 :: ((m.hdrs.take k).flatMap lineH ++ ((m.hdrs[k].name ++ 58 :: 32 :: m.hdrs[k].value.take i) ++ 13 :: 10 :: (m.hdrs[k].value.drop i ++ 13 :: 10 :: ((m.hdrs.drop (k + 1)).flatMap lineH ++ tailT m.body)))) := by
      unfold aheadM; simp
    have hq : textM m = startL m ++ 13 :: 10 :: ((m.hdrs.take k).flatMap lineH ++ (lineT m.hdrs[k] ++ 13 :: 10 :: ((m.hdrs.drop (k + 1)).flatMap lineH ++ tailT m.body))) := by
      unfold textM
      rw [hdrs_split m.hdrs k hk]
      simp [lineH, lineT]
    have hsub : ∀ c ∈ m.hdrs[k].name ++ 58 :: 32 :: m.hdrs[k].value.take i, c.toNat ≠ 13 := by
      intro c hc
      refine g1 c ?_
      unfold lineT
      simp only [List.mem_append, List.mem_cons] at hc ⊢
      rcases hc with hc | hc | hc | hc
      · exact .inl hc
      · exact .inr (.inl hc)
      · exact .inr (.inr (.inl hc))
      · exact .inr (.inr (.inr (List.mem_of_mem_take hc)))
    have hdr : ∀ c ∈ m.hdrs[k].value.drop i, c.toNat ≠ 13 := by
      intro c hc
      refine g1 c ?_
      unfold lineT
      simp only [List.mem_append, List.mem_cons]
      exact .inr (.inr (.inr (List.mem_of_mem_drop hc)))
    have hfl : folded (m.hdrs[k].name ++ 58 :: 32 :: m.hdrs[k].value.take i) = false := by
      unfold lineT at g3
      cases hnm : m.hdrs[k].name with
      | nil => rw [hnm] at g3; exact g3
      | cons c r => rw [hnm] at g3; exact g3
    have hd1 : m.hdrs[k].value.drop i = 32 :: m.hdrs[k].value.drop (i + 1) := by
      rw [List.drop_eq_getElem_cons (by omega), h32]
    have hd2 : m.hdrs[k].value.drop (i + 1) = m.hdrs[k].value[i + 1] :: m.hdrs[k].value.drop (i + 2) := List.drop_eq_getElem_cons (by omega)
    have htr : trim (m.hdrs[k].value.drop i) = m.hdrs[k].value.drop (i + 1) := by
      rw [hd1, trim_blank]
      refine trim_self _ ?_ ?_
      · intro c hc
        rw [hd2] at hc
        injection hc with hc
        rw [← hc]; exact hn
      · intro c hc
        have : m.hdrs[k].value.getLast? = some c := by
          conv => lhs; rw [← List.take_append_drop (i + 1) m.hdrs[k].value, List.getLast?_append, hc]
          rfl
        rw [← hval.2] at this
        exact (trim_ends _).2 c this
    rw [hp, hq, head_line [] _ [] _ f1, head_line [] _ [] _ f1, if_neg (by simpa using f2), if_neg (by simpa using f2), List.nil_append, ha,
      head_hdrs _ _ _ (bad_take _ _ _ h3), head_hdrs _ _ _ (bad_take _ _ _ h3), head_line _ _ [] _ hsub, if_neg (by simp), List.nil_append, addLine_no _ _ hfl,
      head_line _ _ [] _ hdr, if_neg (by rw [hd1]; simp), List.nil_append, head_line _ _ [] _ g1, if_neg (by simpa using g2), List.nil_append, addLine_no _ _ g3]
    unfold addLine
    rw [if_pos ⟨by simp, by rw [hd1]; rfl⟩, htr, List.dropLast_concat, List.getLast?_concat]
    have : m.hdrs[k].value.take i ++ 32 :: m.hdrs[k].value.drop (i + 1) = m.hdrs[k].value := by rw [← hd1, List.take_append_drop]
    unfold lineT
    simp [this]
  unfold parseS at hmain ⊢
  rw [if_neg (by omega)] at hmain
  rw [if_neg (by simp only [List.length_append, List.length_cons] at hlen ⊢; omega), key]
  exact hmain

end Go.Proofs.YtgpbnbaegghajaaDoor
