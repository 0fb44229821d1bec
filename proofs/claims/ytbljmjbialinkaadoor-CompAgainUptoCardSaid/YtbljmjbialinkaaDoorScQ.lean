/-
  Quoted texts, of the program and of the reference.
  What a quoted text stands for, of the program and of the reference.
  Escapes, of the program and of the reference.
-/
import Derived.Test.YtbljmjbialinkaaDoorScP
import Derived.Deep.RegionLaw
namespace Go.Proofs.YtbljmjbialinkaaDoor

section
open Go.RowKit

theorem ret_si {s : ByteArray} {p : List UInt8 × Int} {n : Int} (h : (us s, n) = p) : Ending.returned (.tuple #[.string s, .int .i64 n]) = .returned (.tuple #[.string (bs p.1), .int .i64 p.2]) := by
  rw [← h, bs_us]
theorem us_append (a b : ByteArray) : us (a ++ b) = us a ++ us b := by simp [us, ByteArray.data_append]
theorem empty_bs : (⟨#[]⟩ : ByteArray) = bs [] := rfl
theorem us_empty : us ⟨#[]⟩ = [] := rfl

theorem broken_yes (c : UInt8) (h : broken c = true) : ((c.toNat : Int) == 0) = true ∨ (((c.toNat : Int) == 0) = false ∧ ((c.toNat : Int) == 13) = true) ∨ (((c.toNat : Int) == 0) = false ∧ ((c.toNat : Int) == 13) = false ∧ ((c.toNat : Int) == 10) = true) := by
  simp [broken] at h; simp; omega
theorem broken_no (c : UInt8) (h : broken c = false) : ((c.toNat : Int) == 0) = false ∧ ((c.toNat : Int) == 13) = false ∧ ((c.toNat : Int) == 10) = false := by
  simp [broken] at h; simp; omega
theorem any_take (s : ByteArray) (f : UInt8 → Bool) (k : Nat) (h : k < s.size) : ((us s).take (k + 1)).any f = (((us s).take k).any f || f s[k]) := by
  rw [take_us s k h, List.any_append]; simp
theorem any_found (s : ByteArray) (f : UInt8 → Bool) (k : Nat) (h : k < s.size) (hf : f s[k] = true) : (us s).any f = true :=
  List.any_eq_true.2 ⟨s[k], List.mem_of_getElem? (get_us s k h), hf⟩
theorem flat_take (s : ByteArray) (f : UInt8 → List UInt8) (k : Nat) (h : k < s.size) : ((us s).take (k + 1)).flatMap f = ((us s).take k).flatMap f ++ f s[k] := by
  rw [take_us s k h, List.flatMap_append]; simp
theorem flat_len (l : List UInt8) (f : UInt8 → List UInt8) (m : Nat) (hf : ∀ c, (f c).length ≤ m) : (l.flatMap f).length ≤ m * l.length := by
  induction l with
  | nil => simp
  | cons c r ih => rw [List.flatMap_cons, List.length_append, List.length_cons, Nat.mul_succ]; have := hf c; omega
theorem qbyte_len (c : UInt8) : (qbyte c).length ≤ 2 := by unfold qbyte; split <;> simp
theorem flat_bd (s : ByteArray) (f : UInt8 → List UInt8) (m k : Nat) (hf : ∀ c, (f c).length ≤ m) (hk : k ≤ s.size) : (((us s).take k).flatMap f).length ≤ m * k := by
  have := flat_len ((us s).take k) f m hf
  rwa [take_len s k hk] at this

theorem quote_ok (l : List UInt8) (h : l.any broken = false) : quote l = (34 :: (l.flatMap qbyte ++ [34]), 0) := by unfold quote; rw [h]; rfl
theorem quote_no (l : List UInt8) (h : l.any broken = true) : quote l = ([], 11) := by unfold quote; rw [h]; rfl

end

section
open Go.RowKit

theorem u8_eq {c : UInt8} {n : Nat} (h : c.toNat = n) (hn : n < 256) : c = UInt8.ofNat n := by
  apply UInt8.toNat_inj.1; rw [h]; simp; omega
theorem unquote_bad (s : ByteArray) (h : s.size < 2 ∨ (∃ h : 0 < s.size, s[0].toNat ≠ 34) ∨ (∃ h : 0 < s.size, s[s.size - 1].toNat ≠ 34)) : unquote (us s) = ([], 11) := by
  unfold unquote; rw [if_pos]
  rcases h with h | ⟨h, h'⟩ | ⟨h, h'⟩
  · left; rw [length_us]; exact h
  · right; left; rw [us_cons s h]; simp only [List.head?_cons]; intro e; injection e with e; rw [e] at h'; exact h' rfl
  · right; right; rw [us_snoc s h, List.getLast?_append]; simp only [List.getLast?_singleton, Option.some_or]; intro e; injection e with e; rw [e] at h'; exact h' rfl
theorem unquote_ok (s : ByteArray) (h2 : 2 ≤ s.size) (h0 : s[0].toNat = 34) (h1 : s[s.size - 1].toNat = 34) :
    unquote (us s) = okOr 11 (unqGo (us (s.extract 1 (s.size - 1)))) := by
  unfold unquote; rw [if_neg, us_extract, length_us]
  · have : s.size - 2 = s.size - 1 - 1 := by omega
    rw [this]
  · rw [length_us]
    rintro (h | h | h)
    · omega
    · rw [us_cons s (by omega)] at h; simp only [List.head?_cons] at h; exact h (by rw [u8_eq h0 (by omega)]; rfl)
    · rw [us_snoc s (by omega), List.getLast?_append] at h; simp only [List.getLast?_singleton, Option.some_or] at h; exact h (by rw [u8_eq h1 (by omega)]; rfl)
theorem unq_esc (s : ByteArray) (k : Nat) (h : k + 1 < s.size) (hc : s[k].toNat = 92) :
    unqGo ((us s).drop k) = if broken s[k + 1] || decide (127 < s[k + 1].toNat) then none else (unqGo ((us s).drop (k + 2))).map (s[k + 1] :: ·) := by
  rw [drop_us s k (by omega), drop_us s (k + 1) h]
  simp only [unqGo, hc]; rfl
theorem bare_92 (c : UInt8) (h : c.toNat = 92) : bare c = false := by simp [bare, h]
theorem unq_one (s : ByteArray) (k : Nat) (h : k < s.size) (hc : s[k].toNat ≠ 92 ∨ s.size ≤ k + 1) :
    unqGo ((us s).drop k) = if bare s[k] then (unqGo ((us s).drop (k + 1))).map (s[k] :: ·) else none := by
  rw [drop_us s k h]
  by_cases h1 : k + 1 < s.size
  · rw [drop_us s (k + 1) h1]
    have : s[k].toNat ≠ 92 := by omega
    simp only [unqGo, if_neg this]
  · rw [drop_us_end s (k + 1) (by omega)]
    simp only [unqGo, Option.map_some]
theorem opt_map_map {f : List UInt8 → List UInt8} {g : List UInt8 → List UInt8} (x : Option (List UInt8)) : (x.map f).map g = x.map (fun y => g (f y)) := by
  cases x <;> rfl
theorem unq_step {x y z : Option (List UInt8)} {acc : List UInt8} {c : UInt8} (h : x = y.map (acc ++ ·)) (h' : y = z.map (c :: ·)) : x = z.map ((acc ++ [c]) ++ ·) := by
  rw [h, h', opt_map_map]; congr; funext r; simp
theorem drop_len (s : ByteArray) (k : Nat) : ((us s).drop k).length = s.size - k := by rw [List.length_drop, length_us]

theorem unquote_cases (s : ByteArray) : (s.size < 2 ∨ (∃ h : 2 ≤ s.size, ((s[0].toNat : Int) != 34) = true) ∨ (∃ h : 2 ≤ s.size, ((s[0].toNat : Int) != 34) = false ∧ ((s[s.size - 1].toNat : Int) != 34) = true)) ∧ unquote (us s) = ([], 11) ∨
    ∃ h : 2 ≤ s.size, ((s[0].toNat : Int) != 34) = false ∧ ((s[s.size - 1].toNat : Int) != 34) = false ∧ unquote (us s) = okOr 11 (unqGo (us (s.extract 1 (s.size - 1)))) := by
  by_cases h2 : s.size < 2
  · exact .inl ⟨.inl h2, unquote_bad s (.inl h2)⟩
  by_cases h3 : s[0].toNat = 34
  · by_cases h4 : s[s.size - 1].toNat = 34
    · exact .inr ⟨by omega, by simp; omega, by simp; omega, unquote_ok s (by omega) h3 h4⟩
    · exact .inl ⟨.inr (.inr ⟨by omega, by simp; omega, by simp; omega⟩), unquote_bad s (.inr (.inr ⟨by omega, h4⟩))⟩
  · exact .inl ⟨.inr (.inl ⟨by omega, by simp; omega⟩), unquote_bad s (.inr (.inl ⟨by omega, h3⟩))⟩

theorem get_extract (s : ByteArray) (a b k : Nat) (hb : b ≤ s.size) (h : a + k < b) : (us (s.extract a b))[k]? = some s[a + k] := by
  rw [us_extract, List.getElem?_take, if_pos (by omega), List.getElem?_drop, get_us s (a + k) (by omega)]
theorem get_in (s t : ByteArray) (ht : t = s.extract 1 (s.size - 1)) (k : Nat) (h : k < t.size) (h' : k + 1 < s.size) : t[k] = s[k + 1] := by
  have h1 := get_us t k h
  have h2 : k + 2 < s.size ∨ s.size ≤ k + 2 := by omega
  have h3 : t.size = s.size - 1 - 1 := by rw [ht, size_extract _ _ _ (by omega)]
  have h4 := get_extract s 1 (s.size - 1) k (by omega) (by omega)
  rw [← ht, h1] at h4
  injection h4 with h4
  rw [h4]
  congr 1; omega

end

section
open Go.RowKit

theorem ebyte_len (keep : List UInt8) (c : UInt8) : (ebyte keep c).length ≤ 3 := by unfold ebyte; split <;> simp

/-- the sixteen digits -/
def sixt : ByteArray := ⟨#[48, 49, 50, 51, 52, 53, 54, 55, 56, 57, 65, 66, 67, 68, 69, 70]⟩
theorem sixt_at (i : Nat) (h : i < 16) : ∃ h' : i < sixt.size, sixt[i] = hexd i :=
  ⟨h, (by decide : ∀ i : Fin 16, sixt[i.val]'i.isLt = hexd i.val) ⟨i, h⟩⟩
theorem run_index_at {P : Program} {ty : TypeId} (hty : P.underlying ty = some .string) (s : ByteArray) (k : IntKind) (i : Nat) (h : i < s.size) (w : World) :
    (Instr.index ty (.string s) (.int k (i : Int))).run P w = .ok (.int .u8 s[i].toNat) w := by
  have : s[i]? = some s[i] := getElem?_pos s i h
  have hi : 0 ≤ (i : Int) ∧ (i : Int) < s.size := by omega
  rw [run_index_string w ty s k (i : Int) hty, dif_pos hi]
  rfl
theorem sixt_run {P : Program} {ty : TypeId} (hty : P.underlying ty = some .string) (k : IntKind) (i : Nat) (h : i < 16) {E : Int} (hE : E = (i : Int)) (w : World) :
    (Instr.index ty (.string ⟨#[48, 49, 50, 51, 52, 53, 54, 55, 56, 57, 65, 66, 67, 68, 69, 70]⟩) (.int k E)).run P w = .ok (.int .u8 (hexd i).toNat) w := by
  obtain ⟨h', e⟩ := sixt_at i h
  rw [hE, ← e]
  exact run_index_at hty sixt k i h' w

theorem hex_and (c : UInt8) : bits BinOp.and IntKind.u8 c.toNat 15 = ((c.toNat % 16 : Nat) : Int) :=
  all_bytes (fun c => bits BinOp.and IntKind.u8 c.toNat 15 = ((c.toNat % 16 : Nat) : Int)) (by decide +kernel) c
theorem testc16 (c : UInt8) (b : Bool) (h : testc 16 c = b) : (bits BinOp.and IntKind.i64 (cls c) 16 != 0) = b := by
  rw [← h]; rfl
theorem ebyte_plain (keep : List UInt8) (c : UInt8) (h : c.toNat ≠ 37) (h' : testc 16 c = true ∨ hasb keep c = true) : ebyte keep c = [c] := by
  unfold ebyte; rw [if_pos ⟨h, h'⟩]
theorem ebyte_esc (keep : List UInt8) (c : UInt8) (h : c.toNat = 37 ∨ (testc 16 c = false ∧ hasb keep c = false)) : ebyte keep c = [37, hexd (c.toNat / 16), hexd (c.toNat % 16)] := by
  unfold ebyte; rw [if_neg]
  rintro ⟨h1, h2⟩
  rcases h with h | ⟨h3, h4⟩
  · exact h1 h
  · rw [h3, h4] at h2; simp at h2
theorem ebyte_cases (keep : List UInt8) (c : UInt8) :
    (((c.toNat : Int) != 37) = true ∧ testc 16 c = true ∧ ebyte keep c = [c]) ∨ (((c.toNat : Int) != 37) = true ∧ testc 16 c = false ∧ hasb keep c = true ∧ ebyte keep c = [c]) ∨
    (((c.toNat : Int) != 37) = true ∧ testc 16 c = false ∧ hasb keep c = false ∧ ebyte keep c = [37, hexd (c.toNat / 16), hexd (c.toNat % 16)]) ∨
    (((c.toNat : Int) != 37) = false ∧ ebyte keep c = [37, hexd (c.toNat / 16), hexd (c.toNat % 16)]) := by
  by_cases h : c.toNat = 37
  · exact .inr (.inr (.inr ⟨by simp; omega, ebyte_esc keep c (.inl h)⟩))
  have hn : ((c.toNat : Int) != 37) = true := by simp; omega
  cases h1 : testc 16 c with
  | true => exact .inl ⟨hn, rfl, ebyte_plain keep c h (.inl h1)⟩
  | false =>
    cases h2 : hasb keep c with
    | true => exact .inr (.inl ⟨hn, rfl, rfl, ebyte_plain keep c h (.inr h2)⟩)
    | false => exact .inr (.inr (.inl ⟨hn, rfl, rfl, ebyte_esc keep c (.inr ⟨h1, h2⟩)⟩))

set_option maxHeartbeats 1600000 in
theorem escape_c (s t : ByteArray) (hs : s.size ≤ 35184372088832) (hkt : t.size ≤ 9223372036854775807) (w : World) :
    Calls Tryd.prog 49 #[.string s, .string t] w fun e w' => e = .returned (.string (bs (escape (us s) (us t)))) ∧ Below w.heap.size w w' := by
  go_enter Tryd.func49, Tryd.ntmps49
  go_wp2
  go_loopw [5, 10] (fun v i wr => ∃ k : Nat, k ≤ s.size ∧ i = .int .i64 k ∧ Byt wr w.heap.size 5 v (((us s).take k).flatMap (ebyte (us t))) ∧ Below w.heap.size w wr) (fun _ i _ => s.size - (intOf i).toNat)
  case atStart => exact ⟨0, Nat.zero_le _, rfl, Byt.nil _ _ _, Below.refl _ _⟩
  case round =>
    obtain ⟨k, hk, rfl, hown, hB⟩ := hrel
    have HL := Lib.hid (flat_bd s (ebyte (us t)) 3 k (ebyte_len (us t)) hk)
    by_cases hlt : k < s.size
    · have ht := Lib.hid (flat_take s (ebyte (us t)) k hlt)
      have i1 := fun wx => sixt_run (P := Tryd.prog) Tryd.underlying9 .u8 (s[k].toNat / 16) (by have := s[k].toNat_lt; omega) (show (s[k].toNat : Int) / 16 = ((s[k].toNat / 16 : Nat) : Int) by omega) wx
      have i2 := fun wx => sixt_run (P := Tryd.prog) Tryd.underlying9 .u8 (s[k].toNat % 16) (by omega) (hex_and s[k]) wx
      rcases ebyte_cases (us t) s[k] with ⟨hp, h1, hE⟩ | ⟨hp, h1, h2, hE⟩ | ⟨hp, h1, h2, hE⟩ | ⟨hp, hE⟩
      · have HE := Lib.hid hE
        have h1' := testc16 _ _ h1
        clear h1 hE i1 i2
        go_wp2_with (first | (go_at_call 41; refine (class_c _ _).mono ?_; rintro e w' ⟨rfl, rfl⟩) | (at_builtin; refine wpList_appB1 s[k] rfl rfl rfl Tryd.underlying82 infoB rfl rfl hown hB (Nat.le_refl _) ?_ ?_; (focus (have := HL.out; omega)); intro v1 w1 ho1 hb1))
        go_roundw
        case rel => exact ⟨k + 1, by omega, by go_num, ho1.cast (by rw [ht.out, HE.out]), hb1⟩
        case measure => simp [intOf]; omega
      · have HE := Lib.hid hE
        have h1' := testc16 _ _ h1
        clear h1 hE i1 i2
        go_wp2_with (first | (go_at_call 41; refine (class_c _ _).mono ?_; rintro e w' ⟨rfl, rfl⟩) | (go_at_call 71; refine (in_c t hkt _ _).mono ?_; rintro e w' ⟨rfl, rfl⟩) | (at_builtin; refine wpList_appB1 s[k] rfl rfl rfl Tryd.underlying82 infoB rfl rfl hown hB (Nat.le_refl _) ?_ ?_; (focus (have := HL.out; omega)); intro v1 w1 ho1 hb1))
        go_roundw
        case rel => exact ⟨k + 1, by omega, by go_num, ho1.cast (by rw [ht.out, HE.out]), hb1⟩
        case measure => simp [intOf]; omega
      · have HE := Lib.hid hE
        have h1' := testc16 _ _ h1
        clear h1 hE
        go_wp2_with (first | (go_at_call 41; refine (class_c _ _).mono ?_; rintro e w' ⟨rfl, rfl⟩) | (go_at_call 71; refine (in_c t hkt _ _).mono ?_; rintro e w' ⟨rfl, rfl⟩))
        go_region_law (refine step_appB3 37 (hexd (s[k].toNat / 16)) (hexd (s[k].toNat % 16)) rfl rfl rfl rfl rfl Tryd.underlying82 infoB rfl rfl hown.drew hB.drew (Nat.le_refl _) ?_ ?_; (focus (have := HL.out; omega)); intro v1 w1 ho1 hb1)
        all_goals
          go_wp2
          go_roundw
          case rel => exact ⟨k + 1, by omega, by go_num, ho1.cast (by rw [ht.out, HE.out]), hb1⟩
          case measure => simp [intOf]; omega
      · have HE := Lib.hid hE
        clear hE
        go_wp2
        go_region_law (refine step_appB3 37 (hexd (s[k].toNat / 16)) (hexd (s[k].toNat % 16)) rfl rfl rfl rfl rfl Tryd.underlying82 infoB rfl rfl hown.drew hB.drew (Nat.le_refl _) ?_ ?_; (focus (have := HL.out; omega)); intro v1 w1 ho1 hb1)
        all_goals
          go_wp2
          go_roundw
          case rel => exact ⟨k + 1, by omega, by go_num, ho1.cast (by rw [ht.out, HE.out]), hb1⟩
          case measure => simp [intOf]; omega
    · have hown' := Lib.hid (take_all s k (by omega))
      go_wp2_with (refine wpList_str rfl rfl Tryd.underlying82 Tryd.underlying5 Tryd.underlying9 rfl hown ?_)
      go_ret
      exact ⟨ret_bs (by rw [us_bs]; first | rfl | rw [hown'.out]; rfl), hB⟩
end

end Go.Proofs.YtbljmjbialinkaaDoor
