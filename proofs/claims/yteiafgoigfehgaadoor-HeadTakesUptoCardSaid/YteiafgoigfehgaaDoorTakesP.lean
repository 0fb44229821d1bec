/-
  Plain laws of ranges: a type is taken by itself, by its front and a star, and by two stars.
-/
import Derived.Test.YteiafgoigfehgaaDoorTyp
import Derived.Test.YteiafgoigfehgaaDoorSqs
namespace Go.Proofs.YteiafgoigfehgaaDoor

/-- a byte of a type: of a token, or the slash, no capital letter -/
def tyb (c : UInt8) : Bool := (testc 8 c || c.toNat == 47) && (low c == c)
theorem tyb_facts (c : UInt8) (h : tyb c = true) : blank c = false ∧ c.toNat ≠ 34 ∧ c.toNat ≠ 60 ∧ c.toNat ≠ 62 ∧ c.toNat ≠ 59 ∧ low c = c := by
  have := all_bytes (fun c => tyb c = true → blank c = false ∧ c.toNat ≠ 34 ∧ c.toNat ≠ 60 ∧ c.toNat ≠ 62 ∧ c.toNat ≠ 59 ∧ low c = c) (by decide +kernel) c
  exact this h
theorem parts_ty : ∀ (r cur x : List UInt8), r.all tyb = true → partsGo 59 false false cur (r ++ 32 :: 59 :: x) = (cur ++ r ++ [32]) :: partsGo 59 false false [] x
  | [], cur, x, _ => by
    rw [List.nil_append, pgo_cons 59 false false cur 32 (59 :: x) (by decide)]
    simp only [show ((32 : UInt8).toNat = 34) = False from by decide, show ((32 : UInt8).toNat = 60) = False from by decide, show ((32 : UInt8).toNat = 62) = False from by decide, if_false, show (false = true) = False from by decide]
    rw [if_neg (by decide), pgo_cons 59 false false _ 59 x (by decide)]
    simp
  | c :: r, cur, x, h => by
    rw [List.all_cons, Bool.and_eq_true] at h
    obtain ⟨_, h1, h2, h3, h4, _⟩ := tyb_facts c h.1
    rw [List.cons_append, pgo_cons 59 false false cur c _ (by rintro ⟨h, _⟩; cases h), if_neg h1, if_neg (by decide), if_neg h2, if_neg h3, if_neg (by rintro ⟨h, _⟩; exact h4 h), parts_ty r (cur ++ [c]) x h.2]
    simp
theorem lowr_ty (r : List UInt8) (h : r.all tyb = true) : lowr r = r := by
  unfold lowr
  rw [List.all_eq_true] at h
  rw [List.map_congr_left (g := id) (fun c hc => (tyb_facts c (h c hc)).2.2.2.2.2)]; simp
theorem typeOf_ty (r x : List UInt8) (h : r.all tyb = true) (hne : r ≠ []) : typeOf (r ++ 32 :: 59 :: x) = r := by
  have hall := h
  rw [List.all_eq_true] at h
  have hp : (parts (r ++ 32 :: 59 :: x) 59).headD [] = r ++ [32] := by
    unfold parts; rw [parts_ty r [] x hall]; rfl
  unfold typeOf
  rw [hp]
  have ht : trim (r ++ [32]) = r := by
    have := trim_mid [] r [32] rfl (by decide +kernel) (fun c hc => (tyb_facts c (h c (List.mem_of_mem_head? hc))).1) (fun c hc => (tyb_facts c (h c (List.mem_of_mem_getLast? hc))).1) hne
    simpa using this
  rw [ht, lowr_ty r hall]
theorem low_low (c : UInt8) : low (low c) = low c := by
  have := all_bytes (fun c => low (low c) = low c) (by decide +kernel) c
  exact this
theorem token_tyb (l : List UInt8) (ht : token l = true) (hl : lowr l = l) : l.all tyb = true := by
  unfold token at ht
  simp only [Bool.and_eq_true] at ht
  have h2 := ht.2
  unfold allc at h2
  rw [List.all_eq_true] at h2 ⊢
  intro c hc
  have : low c = c := by
    unfold lowr at hl
    have h3 : ∀ (l : List UInt8), l.map low = l → ∀ c ∈ l, low c = c := by
      intro l
      induction l with
      | nil => intro _ c hc; cases hc
      | cons x r ih =>
        intro h c hc
        injection h with h1 h2
        rcases List.mem_cons.1 hc with rfl | hc
        · exact h1
        · exact ih h2 c hc
    exact h3 l hl c hc
  unfold tyb
  rw [h2 c hc, this]; simp
theorem cutb_join (c : UInt8) : ∀ l : List UInt8, (cutb c l).2.2 = true → l = (cutb c l).1 ++ c :: (cutb c l).2.1
  | [], h => by cases h
  | x :: r, h => by
    by_cases hx : x.toNat = c.toNat
    · rw [cutb, if_pos hx]; simp [UInt8.toNat_inj.1 hx]
    · rw [cutb, if_neg hx] at h ⊢
      have := cutb_join c r h
      simp only [List.cons_append]
      rw [← this]
theorem cutb_of (c : UInt8) : ∀ (a b : List UInt8), (∀ x ∈ a, x.toNat ≠ c.toNat) → cutb c (a ++ c :: b) = (a, b, true)
  | [], b, _ => by rw [List.nil_append, cutb, if_pos rfl]
  | x :: r, b, h => by
    rw [List.cons_append, cutb, if_neg (h x (List.mem_cons_self ..)), cutb_of c r b (fun y hy => h y (List.mem_cons_of_mem _ hy))]
theorem tok_slash (l : List UInt8) (h : token l = true) : ∀ x ∈ l, x.toNat ≠ (47 : UInt8).toNat := by
  unfold token at h
  simp only [Bool.and_eq_true] at h
  have h2 := h.2
  unfold allc at h2
  rw [List.all_eq_true] at h2
  intro x hx e
  have := h2 x hx
  rw [show x = 47 from UInt8.toNat_inj.1 e] at this
  revert this; decide +kernel
theorem typeOf_low (s : List UInt8) : lowr (typeOf s) = typeOf s := by
  unfold typeOf lowr
  rw [List.map_map]
  exact List.map_congr_left fun c _ => low_low c
/-- the pieces of a type -/
theorem typeOk_parts (s : List UInt8) (h : typeOk s = true) : ∃ a b, typeOf s = a ++ 47 :: b ∧ token a = true ∧ token b = true ∧ cutb 47 (typeOf s) = (a, b, true) ∧ lowr a = a ∧ lowr b = b := by
  unfold typeOk at h
  simp only [Bool.and_eq_true] at h
  have hj := cutb_join 47 (typeOf s) h.1.1
  have hl := typeOf_low s
  refine ⟨_, _, hj, h.1.2, h.2, Prod.ext rfl (Prod.ext rfl h.1.1), ?_, ?_⟩
  all_goals
    rw [hj] at hl
    unfold lowr at hl ⊢
    rw [List.map_append] at hl
    have hlen : ((cutb 47 (typeOf s)).1.map low).length = (cutb 47 (typeOf s)).1.length := List.length_map ..
    have := List.append_inj hl hlen
  · exact this.1
  · have h2 := this.2
    rw [List.map_cons] at h2
    injection h2
/-- a range of two tokens -/
theorem typeOk_two (a b x : List UInt8) (ha : token a = true) (hb : token b = true) (la : lowr a = a) (lb : lowr b = b) :
    typeOf ((a ++ 47 :: b) ++ 32 :: 59 :: x) = a ++ 47 :: b ∧ typeOk ((a ++ 47 :: b) ++ 32 :: 59 :: x) = true := by
  have hall : (a ++ 47 :: b).all tyb = true := by
    rw [List.all_append, List.all_cons, token_tyb a ha la, token_tyb b hb lb]; decide +kernel
  have h1 := typeOf_ty (a ++ 47 :: b) x hall (by simp)
  refine ⟨h1, ?_⟩
  unfold typeOk
  rw [h1, cutb_of 47 a b (tok_slash a ha), ha, hb]; rfl
def star : List UInt8 := [42]
theorem takes_three (s : List UInt8) (h : typeOk s = true) (r x : List UInt8) (hr : r = typeOf s ∨ r = (cutb 47 (typeOf s)).1 ++ [47, 42] ∨ r = [42, 47, 42]) :
    takes (typeOf s) (typeOk s) (r ++ 32 :: 59 :: x) = true := by
  obtain ⟨a, b, h1, ha, hb, hc, la, lb⟩ := typeOk_parts s h
  have hst : token [42] = true := by decide +kernel
  have lst : lowr [42] = [42] := by decide +kernel
  unfold takes
  rw [h, hc]
  rcases hr with rfl | rfl | rfl
  · have := typeOk_two a b x ha hb la lb
    rw [← h1] at this
    rw [this.1, this.2]; simp
  · have := typeOk_two a [42] x ha hst la lst
    rw [hc]
    rw [this.1, this.2]; simp
  · have := typeOk_two [42] [42] x hst hst lst lst
    rw [show ([42, 47, 42] : List UInt8) = [42] ++ 47 :: [42] from rfl, this.1, this.2]; simp
theorem accepts_snoc (L : List (List UInt8)) (s : List UInt8) (h : typeOk s = true) (r x : List UInt8) (hr : r = typeOf s ∨ r = (cutb 47 (typeOf s)).1 ++ [47, 42] ∨ r = [42, 47, 42]) :
    acceptsS (L ++ [r ++ 32 :: 59 :: x]) s = true := by
  unfold acceptsS
  rw [List.any_append]; simp [takes_three s h r x hr]
theorem accepts_none (L : List (List UInt8)) (s : List UInt8) (h : typeOk s = false) : acceptsS L s = false := by
  unfold acceptsS takes
  rw [h]; simp

end Go.Proofs.YteiafgoigfehgaaDoor
