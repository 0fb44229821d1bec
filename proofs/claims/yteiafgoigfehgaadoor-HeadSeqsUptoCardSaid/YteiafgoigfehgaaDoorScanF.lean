/-
  What a quoted text stands for, of the program and of the reference.
-/
import Derived.Test.YteiafgoigfehgaaDoorScanE
namespace Go.Proofs.YteiafgoigfehgaaDoor
open Go.RowKit

theorem u8_eq {c : UInt8} {n : Nat} (h : c.toNat = n) (hn : n < 256) : c = UInt8.ofNat n := by
  apply UInt8.toNat_inj.1; rw [h]; simp; omega
theorem unquote_bad (s : ByteArray) (h : s.size < 2 ∨ (∃ h : 0 < s.size, s[0].toNat ≠ 34) ∨ (∃ h : 0 < s.size, s[s.size - 1].toNat ≠ 34)) : unquote (us s) = ([], 11) := by
  unfold unquote; rw [if_pos]
  rcases h with h | ⟨h, h'⟩ | ⟨h, h'⟩
  · left; rw [length_us]; exact h
  · right; left; rw [us_cons s h]; simp only [List.head?_cons]; intro e; injection e with e; rw [e] at h'; exact h' rfl
  · right; right; rw [us_snoc s h, List.getLast?_append]; simp only [List.getLast?_singleton, Option.some_or]; intro e; injection e with e; rw [e] at h'; exact h' rfl
theorem unquote_ok (s : ByteArray) (h2 : 2 ≤ s.size) (h0 : s[0].toNat = 34) (h1 : s[s.size - 1].toNat = 34) :
    unquote (us s) = okOr 11 (unqGo (us (s.extract 1 (s.size - 1)))) := by
  unfold unquote; rw [if_neg, us_extract, length_us]
  · have : s.size - 2 = s.size - 1 - 1 := by omega
    rw [this]
  · rw [length_us]
    rintro (h | h | h)
    · omega
    · rw [us_cons s (by omega)] at h; simp only [List.head?_cons] at h; exact h (by rw [u8_eq h0 (by omega)]; rfl)
    · rw [us_snoc s (by omega), List.getLast?_append] at h; simp only [List.getLast?_singleton, Option.some_or] at h; exact h (by rw [u8_eq h1 (by omega)]; rfl)
theorem unq_esc (s : ByteArray) (k : Nat) (h : k + 1 < s.size) (hc : s[k].toNat = 92) :
    unqGo ((us s).drop k) = if broken s[k + 1] || decide (127 < s[k + 1].toNat) then none else (unqGo ((us s).drop (k + 2))).map (s[k + 1] :: ·) := by
  rw [drop_us s k (by omega), drop_us s (k + 1) h]
  simp only [unqGo, hc]; rfl
theorem bare_92 (c : UInt8) (h : c.toNat = 92) : bare c = false := by simp [bare, h]
theorem unq_one (s : ByteArray) (k : Nat) (h : k < s.size) (hc : s[k].toNat ≠ 92 ∨ s.size ≤ k + 1) :
    unqGo ((us s).drop k) = if bare s[k] then (unqGo ((us s).drop (k + 1))).map (s[k] :: ·) else none := by
  rw [drop_us s k h]
  by_cases h1 : k + 1 < s.size
  · rw [drop_us s (k + 1) h1]
    have : s[k].toNat ≠ 92 := by omega
    simp only [unqGo, if_neg this]
  · rw [drop_us_end s (k + 1) (by omega)]
    simp only [unqGo, Option.map_some]
theorem opt_map_map {f : List UInt8 → List UInt8} {g : List UInt8 → List UInt8} (x : Option (List UInt8)) : (x.map f).map g = x.map (fun y => g (f y)) := by
  cases x <;> rfl
theorem unq_step {x y z : Option (List UInt8)} {acc : List UInt8} {c : UInt8} (h : x = y.map (acc ++ ·)) (h' : y = z.map (c :: ·)) : x = z.map ((acc ++ [c]) ++ ·) := by
  rw [h, h', opt_map_map]; congr; funext r; simp
theorem drop_len (s : ByteArray) (k : Nat) : ((us s).drop k).length = s.size - k := by rw [List.length_drop, length_us]

theorem unquote_cases (s : ByteArray) : (s.size < 2 ∨ (∃ h : 2 ≤ s.size, ((s[0].toNat : Int) != 34) = true) ∨ (∃ h : 2 ≤ s.size, ((s[0].toNat : Int) != 34) = false ∧ ((s[s.size - 1].toNat : Int) != 34) = true)) ∧ unquote (us s) = ([], 11) ∨
    ∃ h : 2 ≤ s.size, ((s[0].toNat : Int) != 34) = false ∧ ((s[s.size - 1].toNat : Int) != 34) = false ∧ unquote (us s) = okOr 11 (unqGo (us (s.extract 1 (s.size - 1)))) := by
  by_cases h2 : s.size < 2
  · exact .inl ⟨.inl h2, unquote_bad s (.inl h2)⟩
  by_cases h3 : s[0].toNat = 34
  · by_cases h4 : s[s.size - 1].toNat = 34
    · exact .inr ⟨by omega, by simp; omega, by simp; omega, unquote_ok s (by omega) h3 h4⟩
    · exact .inl ⟨.inr (.inr ⟨by omega, by simp; omega, by simp; omega⟩), unquote_bad s (.inr (.inr ⟨by omega, h4⟩))⟩
  · exact .inl ⟨.inr (.inl ⟨by omega, by simp; omega⟩), unquote_bad s (.inr (.inl ⟨by omega, h3⟩))⟩

set_option maxHeartbeats 3200000 in
theorem unquote_c (s : ByteArray) (hs : s.size ≤ 140737488355328) (w : World) :
    Calls Tryd.prog 77 #[.string s] w fun e w' => e = .returned (.tuple #[.string (bs (unquote (us s)).1), .int .i64 (unquote (us s)).2]) ∧ Below w.heap.size w w' := by
  rcases unquote_cases s with ⟨hx, hF⟩ | ⟨h2, g3, g4, hU⟩
  · have HF := Lib.hid hF
    clear hF
    rcases hx with h2 | ⟨h2, h3⟩ | ⟨h2, h3, h4⟩
    all_goals
      go_enter Tryd.func77, Tryd.ntmps77
      go_wp2
      go_ret2
      exact ⟨ret_si (by rw [HF.out]; rfl), Below.refl _ _⟩
  · have HU := Lib.hid hU
    clear hU
    have hts : (s.extract 1 (s.size - 1)).size = s.size - 2 := by rw [size_extract _ _ _ (by omega)]; omega
    obtain ⟨t, ht⟩ : ∃ t, t = s.extract 1 (s.size - 1) := ⟨_, rfl⟩
    rw [← ht] at hts HU
    have hts' : t.size ≤ 140737488355328 := by omega
    have HTT := Lib.hid ht
    clear ht hts
    go_enter Tryd.func77, Tryd.ntmps77
    go_wp2
    rw [← HTT.out]
    go_loopw [5, 6] (fun v i wr => ∃ (k : Nat) (acc : List UInt8), k ≤ t.size ∧ i = .int .i64 k ∧ Byt wr w.heap.size 5 v acc ∧ acc.length ≤ k ∧ unqGo (us t) = (unqGo ((us t).drop k)).map (acc ++ ·) ∧ Below w.heap.size w wr) (fun _ i _ => t.size - (intOf i).toNat)
    case atStart => exact ⟨0, [], Nat.zero_le _, rfl, Byt.nil _ _ _, Nat.le_refl _, by simp, Below.refl _ _⟩
    case round =>
      obtain ⟨k, acc, hk, rfl, hown, hal, hu, hB⟩ := hrel
      have HB := Lib.hid hu; clear hu
      by_cases hlt : k < t.size
      · by_cases he : k + 1 < t.size ∧ t[k].toNat = 92
        · obtain ⟨he1, he2⟩ := he
          have HD := Lib.hid (unq_esc t k he1 he2)
          have q0 : ((t[k].toNat : Int) == 92) = true := by simp; omega
          clear he2
          by_cases hb : broken t[k + 1] = true
          · have HF := Lib.hid (show unquote (us s) = ([], 11) by rw [HU.out, HB.out, HD.out, hb]; rfl)
            have hy := broken_yes t[k + 1] hb
            clear hb
            rcases hy with h0 | ⟨h0, h1⟩ | ⟨h0, h1, h2⟩
            all_goals
              go_wp2
              go_ret2
              exact ⟨ret_si (by rw [HF.out]; rfl), hB⟩
          · have hb' : broken t[k + 1] = false := by simpa using hb
            have HBB := Lib.hid hb'
            obtain ⟨h0, h1, h2⟩ := broken_no t[k + 1] hb'
            clear hb hb'
            by_cases hg : 127 < t[k + 1].toNat
            · have HF := Lib.hid (show unquote (us s) = ([], 11) by rw [HU.out, HB.out, HD.out, HBB.out, decide_eq_true hg]; rfl)
              go_wp2
              go_ret2
              exact ⟨ret_si (by rw [HF.out]; rfl), hB⟩
            · have hg' : t[k + 1].toNat ≤ 127 := by omega
              have HS := Lib.hid (unq_step HB.out (show unqGo ((us t).drop k) = (unqGo ((us t).drop (k + 2))).map (t[k + 1] :: ·) by rw [HD.out, HBB.out, decide_eq_false hg]; rfl))
              clear hg
              go_wp2_with (at_builtin; refine wpList_appB1 t[k + 1] rfl rfl rfl Tryd.underlying73 infoB rfl rfl hown hB (Nat.le_refl _) ?_ ?_; (focus omega); intro v1 w1 ho1 hb1)
              go_roundw
              case rel => exact ⟨k + 2, _, by omega, by simp; omega, ho1, by simp; omega, HS.out, hb1⟩
              case measure => simp [intOf]; omega
        · have HD := Lib.hid (unq_one t k hlt (by omega))
          by_cases hb : bare t[k] = true
          · have HS := Lib.hid (unq_step HB.out (show unqGo ((us t).drop k) = (unqGo ((us t).drop (k + 1))).map (t[k] :: ·) by rw [HD.out, hb]; rfl))
            have q0 : ((t[k].toNat : Int) == 92) = false := by
              have := (bare_iff t[k]).1 hb
              simp; omega
            clear he
            go_wp2_with (first | (go_at_call 90; refine (bare_c _ _).mono ?_; rintro e w' ⟨rfl, rfl⟩) | (at_builtin; refine wpList_appB1 t[k] rfl rfl rfl Tryd.underlying73 infoB rfl rfl hown hB (Nat.le_refl _) ?_ ?_; (focus omega); intro v1 w1 ho1 hb1))
            go_roundw
            case rel => exact ⟨k + 1, _, by omega, by go_num, ho1, by simp; omega, HS.out, hb1⟩
            case measure => simp [intOf]; omega
          · have hb' : bare t[k] = false := by simpa using hb
            have HF := Lib.hid (show unquote (us s) = ([], 11) by rw [HU.out, HB.out, HD.out, hb']; rfl)
            have hq : (((t[k].toNat : Int) == 92) = true ∧ t.size ≤ k + 1) ∨ ((t[k].toNat : Int) == 92) = false := by
              simp; omega
            clear hb he
            rcases hq with ⟨q0, q1⟩ | q0
            all_goals
              go_wp2_with (go_at_call 90; refine (bare_c _ _).mono ?_; rintro e w' ⟨rfl, rfl⟩)
              go_ret2
              exact ⟨ret_si (by rw [HF.out]; rfl), hB⟩
      · have HF := Lib.hid (show unquote (us s) = (acc, 0) by rw [HU.out, HB.out, drop_us_end t k (by omega)]; simp [unqGo, okOr])
        go_wp2_with (refine wpList_str rfl rfl Tryd.underlying73 Tryd.underlying5 Tryd.underlying9 rfl hown ?_)
        go_ret2
        exact ⟨ret_si (by rw [HF.out]; simp), hB⟩

theorem get_extract (s : ByteArray) (a b k : Nat) (hb : b ≤ s.size) (h : a + k < b) : (us (s.extract a b))[k]? = some s[a + k] := by
  rw [us_extract, List.getElem?_take, if_pos (by omega), List.getElem?_drop, get_us s (a + k) (by omega)]
theorem get_in (s t : ByteArray) (ht : t = s.extract 1 (s.size - 1)) (k : Nat) (h : k < t.size) (h' : k + 1 < s.size) : t[k] = s[k + 1] := by
  have h1 := get_us t k h
  have h2 : k + 2 < s.size ∨ s.size ≤ k + 2 := by omega
  have h3 : t.size = s.size - 1 - 1 := by rw [ht, size_extract _ _ _ (by omega)]
  have h4 := get_extract s 1 (s.size - 1) k (by omega) (by omega)
  rw [← ht, h1] at h4
  injection h4 with h4
  rw [h4]
  congr 1; omega

set_option maxHeartbeats 3200000 in
theorem unquoteR_c (s : ByteArray) (hs : s.size ≤ 140737488355328) (w : World) :
    Calls Tryd.prog 68 #[.string s] w fun e w' => e = .returned (.tuple #[.string (bs (unquote (us s)).1), .int .i64 (unquote (us s)).2]) ∧ Below w.heap.size w w' := by
  rcases unquote_cases s with ⟨hx, hF⟩ | ⟨h2, g3, g4, hU⟩
  · have HF := Lib.hid hF
    clear hF
    rcases hx with h2 | ⟨h2, h3⟩ | ⟨h2, h3, h4⟩
    all_goals
      go_enter Tryd.func68, Tryd.ntmps68
      go_wp2
      go_ret2
      exact ⟨ret_si (by rw [HF.out]; rfl), Below.refl _ _⟩
  · have HU := Lib.hid hU
    clear hU
    have hts : (s.extract 1 (s.size - 1)).size = s.size - 2 := by rw [size_extract _ _ _ (by omega)]; omega
    obtain ⟨t, ht⟩ : ∃ t, t = s.extract 1 (s.size - 1) := ⟨_, rfl⟩
    rw [← ht] at hts HU
    have HTT := Lib.hid ht
    have t1 : t.size + 2 ≤ s.size := by omega
    have t2 : s.size ≤ t.size + 2 := by omega
    clear ht hts
    go_enter Tryd.func68, Tryd.ntmps68
    go_wp2
    go_loopw [4, 5] (fun v i wr => ∃ (k : Nat) (acc : List UInt8), k ≤ t.size ∧ i = .int .i64 (k + 1 : Nat) ∧ Byt wr w.heap.size 5 v acc ∧ acc.length ≤ k ∧ unqGo (us t) = (unqGo ((us t).drop k)).map (acc ++ ·) ∧ Below w.heap.size w wr) (fun _ i _ => s.size - (intOf i).toNat)
    case atStart => exact ⟨0, [], Nat.zero_le _, rfl, Byt.nil _ _ _, Nat.le_refl _, by simp, Below.refl _ _⟩
    case round =>
      obtain ⟨k, acc, hk, rfl, hown, hal, hu, hB⟩ := hrel
      have HB := Lib.hid hu; clear hu
      by_cases hlt : k < t.size
      · have e1 := get_in s t HTT.out k hlt (by omega)
        by_cases he : k + 1 < t.size ∧ t[k].toNat = 92
        · obtain ⟨he1, he2⟩ := he
          have e2 := get_in s t HTT.out (k + 1) he1 (by omega)
          have HD := Lib.hid (unq_esc t k he1 he2)
          rw [e1] at he2
          rw [e2] at HD
          have q0 : ((s[k + 1].toNat : Int) == 92) = true := by simp; omega
          clear he2 e1 e2
          by_cases hb : broken s[k + 1 + 1] = true
          · have HF := Lib.hid (show unquote (us s) = ([], 11) by rw [HU.out, HB.out, HD.out, hb]; rfl)
            go_wp2_with (go_at_call 86; refine (brokenR_c _ _).mono ?_; rintro e w' ⟨rfl, rfl⟩)
            go_ret2
            exact ⟨ret_si (by rw [HF.out]; rfl), hB⟩
          · have hb' : broken s[k + 1 + 1] = false := by simpa using hb
            clear hb
            by_cases hg : 127 < s[k + 1 + 1].toNat
            · have HF := Lib.hid (show unquote (us s) = ([], 11) by rw [HU.out, HB.out, HD.out, hb', decide_eq_true hg]; rfl)
              go_wp2_with (go_at_call 86; refine (brokenR_c _ _).mono ?_; rintro e w' ⟨rfl, rfl⟩)
              go_ret2
              exact ⟨ret_si (by rw [HF.out]; rfl), hB⟩
            · have hg' : s[k + 1 + 1].toNat ≤ 127 := by omega
              have HS := Lib.hid (unq_step HB.out (show unqGo ((us t).drop k) = (unqGo ((us t).drop (k + 2))).map (s[k + 1 + 1] :: ·) by rw [HD.out, hb', decide_eq_false hg]; rfl))
              clear hg
              go_wp2_with (first | (go_at_call 86; refine (brokenR_c _ _).mono ?_; rintro e w' ⟨rfl, rfl⟩) | (at_builtin; refine wpList_appB1 s[k + 1 + 1] rfl rfl rfl Tryd.underlying73 infoB rfl rfl hown hB (Nat.le_refl _) ?_ ?_; (focus omega); intro v1 w1 ho1 hb1))
              go_roundw
              case rel => exact ⟨k + 2, _, by omega, by simp; omega, ho1, by simp; omega, HS.out, hb1⟩
              case measure => simp [intOf]; omega
        · have HD := Lib.hid (unq_one t k hlt (by omega))
          rw [e1] at HD he
          clear e1
          by_cases hb : bare s[k + 1] = true
          · have HS := Lib.hid (unq_step HB.out (show unqGo ((us t).drop k) = (unqGo ((us t).drop (k + 1))).map (s[k + 1] :: ·) by rw [HD.out, hb]; rfl))
            have q0 : ((s[k + 1].toNat : Int) == 92) = false := by
              have := (bare_iff s[k + 1]).1 hb
              simp; omega
            clear he
            go_wp2_with (first | (go_at_call 87; refine (bareR_c _ _).mono ?_; rintro e w' ⟨rfl, rfl⟩) | (at_builtin; refine wpList_appB1 s[k + 1] rfl rfl rfl Tryd.underlying73 infoB rfl rfl hown hB (Nat.le_refl _) ?_ ?_; (focus omega); intro v1 w1 ho1 hb1))
            go_roundw
            case rel => exact ⟨k + 1, _, by omega, by simp, ho1, by simp; omega, HS.out, hb1⟩
            case measure => simp [intOf]; omega
          · have hb' : bare s[k + 1] = false := by simpa using hb
            have HF := Lib.hid (show unquote (us s) = ([], 11) by rw [HU.out, HB.out, HD.out, hb']; rfl)
            have hq : (((s[k + 1].toNat : Int) == 92) = true ∧ t.size ≤ k + 1) ∨ ((s[k + 1].toNat : Int) == 92) = false := by
              simp; omega
            clear hb he
            rcases hq with ⟨q0, q1⟩ | q0
            all_goals
              go_wp2_with (go_at_call 87; refine (bareR_c _ _).mono ?_; rintro e w' ⟨rfl, rfl⟩)
              go_ret2
              exact ⟨ret_si (by rw [HF.out]; rfl), hB⟩
      · have HF := Lib.hid (show unquote (us s) = (acc, 0) by rw [HU.out, HB.out, drop_us_end t k (by omega)]; simp [unqGo, okOr])
        go_wp2_with (refine wpList_str rfl rfl Tryd.underlying73 Tryd.underlying5 Tryd.underlying9 rfl hown ?_)
        go_ret2
        exact ⟨ret_si (by rw [HF.out]; simp), hB⟩

end Go.Proofs.YteiafgoigfehgaaDoor
