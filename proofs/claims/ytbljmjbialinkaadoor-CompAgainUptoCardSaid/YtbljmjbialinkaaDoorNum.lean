/-
  Plain laws of digits, numbers and blanks at the ends.
-/
import Derived.Test.YtbljmjbialinkaaDoorScS
namespace Go.Proofs.YtbljmjbialinkaaDoor

def isDig (c : UInt8) : Bool := decide (48 ≤ c.toNat) && decide (c.toNat ≤ 57)
theorem isDig_iff (c : UInt8) : isDig c = true ↔ 48 ≤ c.toNat ∧ c.toNat ≤ 57 := by simp [isDig]
theorem testc_dig (c : UInt8) : testc 1 c = isDig c :=
  all_bytes (fun c => testc 1 c = isDig c) (by decide +kernel) c
theorem allc_dig (l : List UInt8) : allc 1 l = l.all isDig := by
  unfold allc
  rw [show testc 1 = isDig from funext testc_dig]
/-- the number that digits tell, behind some -/
def valF : List UInt8 → Int → Int
  | [], n => n
  | c :: r, n => valF r (10 * n + ((c.toNat : Int) - 48))
theorem valF_ge : ∀ (l : List UInt8) (n : Int), l.all isDig = true → 0 ≤ n → n ≤ valF l n
  | [], n, _, _ => Int.le_refl _
  | c :: r, n, h, h0 => by
    rw [List.all_cons, Bool.and_eq_true, isDig_iff] at h
    have := valF_ge r (10 * n + ((c.toNat : Int) - 48)) h.2 (by omega)
    rw [valF]; omega
theorem numGo_val (most : Int) : ∀ (l : List UInt8) (n : Int), l.all isDig = true → 0 ≤ n → n ≤ most → numGo most l n = if valF l n ≤ most then (valF l n, 0) else (0, 9)
  | [], n, _, _, hn => by rw [numGo, valF, if_pos hn]
  | c :: r, n, h, h0, hn => by
    rw [List.all_cons, Bool.and_eq_true, isDig_iff] at h
    rw [numGo, valF]
    by_cases hm : 10 * n + ((c.toNat : Int) - 48) ≤ most
    · rw [if_neg (by omega)]
      exact numGo_val most r _ h.2 (by omega) hm
    · rw [if_pos (by omega)]
      have := valF_ge r (10 * n + ((c.toNat : Int) - 48)) h.2 (by omega)
      rw [if_neg (by omega)]
theorem number_val (most : Int) (h0 : 0 ≤ most) (l : List UInt8) (hl : l ≠ []) (h : l.all isDig = true) : number l most = if valF l 0 ≤ most then (valF l 0, 0) else (0, 9) := by
  unfold number
  rw [if_neg, numGo_val most l 0 h (Int.le_refl _) h0]
  rintro (h' | h')
  · exact hl h'
  · rw [allc_dig, h] at h'; cases h'
theorem valF_append : ∀ (a b : List UInt8) (n : Int), valF (a ++ b) n = valF b (valF a n)
  | [], _, _ => rfl
  | c :: r, b, n => by rw [List.cons_append, valF, valF]; exact valF_append r b _
theorem valF_zeros : ∀ k : Nat, valF (List.replicate k 48) 0 = 0
  | 0 => rfl
  | k + 1 => by
    rw [List.replicate_succ, valF]
    have : (10 * 0 + (((48 : UInt8).toNat : Int) - 48)) = 0 := by decide
    rw [this]; exact valF_zeros k
theorem digits_all (n : Int) : (digits n).all isDig = true := by
  rw [← allc_dig]; unfold digits; split
  · rfl
  · exact digF_all _ _
theorem digits_ne (n : Int) (h : 0 ≤ n) : digits n ≠ [] := by
  unfold digits; rw [if_neg (by omega)]; exact digF_ne _ _ (by decide)
theorem valF_digits (n : Int) (h0 : 0 ≤ n) (h1 : n ≤ 9223372036854775807) : valF (digits n) 0 = n := by
  have h := number_digits n h0 h1
  rw [number_val n h0 _ (digits_ne n h0) (digits_all n)] at h
  split at h
  · exact congrArg Prod.fst h
  · cases congrArg Prod.snd h
theorem blank_dig (c : UInt8) (h : isDig c = true) : blank c = false := by
  have := all_bytes (fun c => isDig c = true → blank c = false) (by decide +kernel) c
  exact this h
theorem dropWhile_none (p : UInt8 → Bool) (l : List UInt8) (h : ∀ c, l.head? = some c → p c = false) : l.dropWhile p = l := by
  cases l with
  | nil => rfl
  | cons c r => rw [List.dropWhile_cons_of_neg (by rw [h c rfl]; decide)]
/-- a text with no blank at its ends, blanks around it -/
theorem trim_mid (a l b : List UInt8) (ha : a.all blank = true) (hb : b.all blank = true) (h0 : ∀ c, l.head? = some c → blank c = false) (h1 : ∀ c, l.getLast? = some c → blank c = false) (hl : l ≠ []) : trim (a ++ l ++ b) = l := by
  have hd : ∀ (x y : List UInt8), x.all blank = true → (x ++ y).dropWhile blank = y.dropWhile blank := by
    intro x
    induction x with
    | nil => intro y _; rfl
    | cons c r ih =>
      intro y h
      rw [List.all_cons, Bool.and_eq_true] at h
      rw [List.cons_append, List.dropWhile_cons_of_pos h.1]
      exact ih y h.2
  unfold trim trimR trimL
  rw [List.append_assoc, hd a _ ha]
  have e1 : (l ++ b).dropWhile blank = l ++ b := by
    refine dropWhile_none _ _ fun c hc => h0 c ?_
    cases l with
    | nil => exact absurd rfl hl
    | cons x r => exact hc
  rw [e1, List.reverse_append, hd b.reverse _ (by rw [List.all_reverse]; exact hb)]
  have e2 : l.reverse.dropWhile blank = l.reverse := by
    refine dropWhile_none _ _ fun c hc => h1 c ?_
    rw [← List.head?_reverse]; exact hc
  rw [e2, List.reverse_reverse]
theorem trim_self (l : List UInt8) (h0 : ∀ c, l.head? = some c → blank c = false) (h1 : ∀ c, l.getLast? = some c → blank c = false) : trim l = l := by
  cases l with
  | nil => rfl
  | cons x r => simpa using trim_mid [] (x :: r) [] rfl rfl h0 h1 (by simp)
theorem dig_ends (l : List UInt8) (h : l.all isDig = true) : (∀ c, l.head? = some c → blank c = false) ∧ (∀ c, l.getLast? = some c → blank c = false) := by
  rw [List.all_eq_true] at h
  exact ⟨fun c hc => blank_dig c (h c (List.mem_of_mem_head? hc)), fun c hc => blank_dig c (h c (List.mem_of_mem_getLast? hc))⟩

end Go.Proofs.YtbljmjbialinkaaDoor
