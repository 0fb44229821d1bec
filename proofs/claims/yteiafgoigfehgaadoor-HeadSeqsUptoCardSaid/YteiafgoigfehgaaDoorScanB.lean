/-
  Trim, Number, Same of the program and of the reference: what they compute.
-/
import Derived.Test.YteiafgoigfehgaaDoorScanA
import Derived.Deep.QuietTactic
import Derived.BigQuiet
import Derived.Lib.IndexBytes
namespace Go.Proofs.YteiafgoigfehgaaDoor
open Go.RowKit

/-! trimming -/
theorem trimL_cons (c : UInt8) (l : List UInt8) : trimL (c :: l) = if blank c then trimL l else c :: l := by
  simp [trimL, List.dropWhile_cons]
theorem trimR_snoc (c : UInt8) (l : List UInt8) : trimR (l ++ [c]) = if blank c then trimR l else l ++ [c] := by
  simp only [trimR, List.reverse_append, List.reverse_cons, List.reverse_nil, List.nil_append, List.cons_append, List.dropWhile_cons]
  split <;> simp
theorem blank_of (c : UInt8) : blank c = (cls c == 32) := rfl
theorem us_cons (s : ByteArray) (h : 0 < s.size) : us s = s[0] :: (us s).drop 1 := by
  have := drop_us s 0 h; simpa using this
theorem us_snoc (s : ByteArray) (h : 0 < s.size) : us s = (us s).take (s.size - 1) ++ [s[s.size - 1]] := by
  have h1 := take_us s (s.size - 1) (by omega)
  rw [← h1, List.take_of_length_le (by rw [length_us]; omega)]
theorem us_extract (s : ByteArray) (a b : Nat) : us (s.extract a b) = ((us s).drop a).take (b - a) := Lib.extract_data s a b
theorem us_tail (s : ByteArray) (a : Nat) : us (s.extract a s.size) = (us s).drop a := Lib.extract_to_end s a
theorem size_extract (s : ByteArray) (a b : Nat) (h : b ≤ s.size) : (s.extract a b).size = b - a := by
  rw [← length_us, us_extract, List.length_take, List.length_drop, length_us]; omega

/-- a string's length, of a slot: for a loop's measure -/
def lenS : Value → Nat | .string t => t.size | _ => 0
theorem trimL_fix (s : ByteArray) (h : s.size = 0 ∨ ∃ h : 0 < s.size, blank s[0] = false) : trimL (us s) = us s := by
  rcases h with h | ⟨h, hb⟩
  · rw [eq_empty h]; rfl
  · rw [us_cons s h, trimL_cons, hb]; simp
theorem trimR_fix (s : ByteArray) (h : s.size = 0 ∨ ∃ h : 0 < s.size, blank s[s.size - 1] = false) : trimR (us s) = us s := by
  rcases h with h | ⟨h, hb⟩
  · rw [eq_empty h]; rfl
  · rw [us_snoc s h, trimR_snoc, hb]; simp
theorem trimL_step (s : ByteArray) (h : 0 < s.size) (hb : blank s[0] = true) : trimL (us (s.extract 1 s.size)) = trimL (us s) := by
  rw [us_tail, us_cons s h, trimL_cons, hb]; simp
theorem trimR_step (s : ByteArray) (h : 0 < s.size) (hb : blank s[s.size - 1] = true) : trimR (us (s.extract 0 (s.size - 1))) = trimR (us s) := by
  rw [us_extract]; conv => rhs; rw [us_snoc s h, trimR_snoc, hb]
  simp
theorem ret_bs {s : ByteArray} {l : List UInt8} (h : us s = l) : Ending.returned (.string s) = .returned (.string (bs l)) := by rw [← h, bs_us]

set_option maxHeartbeats 800000 in
theorem trim_c (s : ByteArray) (hs : s.size ≤ 9223372036854775807) (w : World) :
    Calls Tryd.prog 37 #[.string s] w fun e w' => e = .returned (.string (bs (trim (us s)))) ∧ w = w' := by
  go_enter Tryd.func37, Tryd.ntmps37
  go_wp2
  go_loop [0] (fun v => ∃ t : ByteArray, v = .string t ∧ t.size ≤ s.size ∧ trimL (us t) = trimL (us s)) (fun v => lenS v)
  case atStart => exact ⟨s, rfl, Nat.le_refl _, rfl⟩
  case round =>
    obtain ⟨t, rfl, ht, hb⟩ := hrel
    have HB := Lib.hid hb; clear hb
    by_cases hbl : ∃ h : 0 < t.size, blank t[0] = true
    · obtain ⟨h3, hbl⟩ := hbl
      have HS := Lib.hid ((trimL_step t h3 hbl).trans HB.out)
      have h1 := isEmpty_f (s := t) (by omega)
      have h2 := ne_empty (s := t) (by omega)
      rw [blank_of] at hbl
      go_wp2_with (go_at_call 59; refine (class_c _ _).mono ?_; rintro e w' ⟨rfl, rfl⟩)
      go_round
      case rel => exact ⟨_, rfl, by rw [size_extract _ _ _ (Nat.le_refl _)]; omega, HS.out⟩
      case measure => simp only [lenS]; rw [size_extract _ _ _ (Nat.le_refl _)]; omega
    · have hx : t.size = 0 ∨ ∃ h : 0 < t.size, blank t[0] = false := by
        by_cases h : 0 < t.size
        · right; exact ⟨h, by simpa using fun hh => hbl ⟨h, hh⟩⟩
        · left; omega
      have HT := Lib.hid (show trimR (us t) = trim (us s) by rw [trim, ← HB.out, trimL_fix t hx])
      clear hbl HB
      have hx' : (t.size = 0 ∧ t.toList.isEmpty = true) ∨ (∃ h : 0 < t.size, blank t[0] = false ∧ t.toList.isEmpty = false ∧ ¬ t = ByteArray.empty) := by
        rcases hx with h | ⟨h, hb⟩
        · exact .inl ⟨h, by rw [isEmpty_us]; exact decide_eq_true h⟩
        · exact .inr ⟨h, hb, isEmpty_f (by omega), ne_empty (by omega)⟩
      clear hx
      rcases hx' with ⟨hz, h1⟩ | ⟨h3, hbl, h1, h2⟩
      rotate_left
      rw [blank_of] at hbl
      rotate_left
      all_goals
        go_wp2_with (go_at_call 59; refine (class_c _ _).mono ?_; rintro e w' ⟨rfl, rfl⟩)
        go_loop [0] (fun v => ∃ t : ByteArray, v = .string t ∧ t.size ≤ s.size ∧ trimR (us t) = trim (us s)) (fun v => lenS v)
        case atStart => exact ⟨_, rfl, ht, HT.out⟩
        case round =>
          obtain ⟨r, rfl, hr, hb⟩ := hrel
          have HB := Lib.hid hb; clear hb HT
          by_cases hbr : ∃ h : 0 < r.size, blank r[r.size - 1] = true
          · obtain ⟨h3, hbr⟩ := hbr
            have HS := Lib.hid ((trimR_step r h3 hbr).trans HB.out)
            have h1 := isEmpty_f (s := r) (by omega)
            have h2 := ne_empty (s := r) (by omega)
            rw [blank_of] at hbr
            go_wp2_with (go_at_call 59; refine (class_c _ _).mono ?_; rintro e w' ⟨rfl, rfl⟩)
            go_round
            case rel => exact ⟨_, rfl, by rw [size_extract _ _ _ (by omega)]; omega, HS.out⟩
            case measure => simp only [lenS]; rw [size_extract _ _ _ (by omega)]; omega
          · have hx : r.size = 0 ∨ ∃ h : 0 < r.size, blank r[r.size - 1] = false := by
              by_cases h : 0 < r.size
              · right; exact ⟨h, by simpa using fun hh => hbr ⟨h, hh⟩⟩
              · left; omega
            have HT := Lib.hid (show us r = trim (us s) by rw [← HB.out, trimR_fix r hx])
            clear hbr HB
            have hx' : (r.size = 0 ∧ r.toList.isEmpty = true) ∨ (∃ h : 0 < r.size, blank r[r.size - 1] = false ∧ r.toList.isEmpty = false ∧ ¬ r = ByteArray.empty) := by
              rcases hx with h | ⟨h, hb⟩
              · exact .inl ⟨h, by rw [isEmpty_us]; exact decide_eq_true h⟩
              · exact .inr ⟨h, hb, isEmpty_f (by omega), ne_empty (by omega)⟩
            clear hx
            rcases hx' with ⟨hz, h1⟩ | ⟨h3, hbl, h1, h2⟩
            · go_wp2
              go_ret
              exact ⟨ret_bs HT.out, rfl⟩
            · rw [blank_of] at hbl
              go_wp2_with (go_at_call 59; refine (class_c _ _).mono ?_; rintro e w' ⟨rfl, rfl⟩)
              go_ret
              exact ⟨ret_bs HT.out, rfl⟩

end Go.Proofs.YteiafgoigfehgaaDoor
