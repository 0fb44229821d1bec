/-
  Quoted texts, of the program and of the reference.
-/
import Derived.Test.YteiafgoigfehgaaDoorScanD
namespace Go.Proofs.YteiafgoigfehgaaDoor
open Go.RowKit

theorem ret_si {s : ByteArray} {p : List UInt8 × Int} {n : Int} (h : (us s, n) = p) : Ending.returned (.tuple #[.string s, .int .i64 n]) = .returned (.tuple #[.string (bs p.1), .int .i64 p.2]) := by
  rw [← h, bs_us]
theorem us_append (a b : ByteArray) : us (a ++ b) = us a ++ us b := by simp [us, ByteArray.data_append]
theorem empty_bs : (⟨#[]⟩ : ByteArray) = bs [] := rfl
theorem us_empty : us ⟨#[]⟩ = [] := rfl

theorem broken_yes (c : UInt8) (h : broken c = true) : ((c.toNat : Int) == 0) = true ∨ (((c.toNat : Int) == 0) = false ∧ ((c.toNat : Int) == 13) = true) ∨ (((c.toNat : Int) == 0) = false ∧ ((c.toNat : Int) == 13) = false ∧ ((c.toNat : Int) == 10) = true) := by
  simp [broken] at h; simp; omega
theorem broken_no (c : UInt8) (h : broken c = false) : ((c.toNat : Int) == 0) = false ∧ ((c.toNat : Int) == 13) = false ∧ ((c.toNat : Int) == 10) = false := by
  simp [broken] at h; simp; omega
theorem any_take (s : ByteArray) (f : UInt8 → Bool) (k : Nat) (h : k < s.size) : ((us s).take (k + 1)).any f = (((us s).take k).any f || f s[k]) := by
  rw [take_us s k h, List.any_append]; simp
theorem any_found (s : ByteArray) (f : UInt8 → Bool) (k : Nat) (h : k < s.size) (hf : f s[k] = true) : (us s).any f = true :=
  List.any_eq_true.2 ⟨s[k], List.mem_of_getElem? (get_us s k h), hf⟩
theorem flat_take (s : ByteArray) (f : UInt8 → List UInt8) (k : Nat) (h : k < s.size) : ((us s).take (k + 1)).flatMap f = ((us s).take k).flatMap f ++ f s[k] := by
  rw [take_us s k h, List.flatMap_append]; simp
theorem flat_len (l : List UInt8) (f : UInt8 → List UInt8) (m : Nat) (hf : ∀ c, (f c).length ≤ m) : (l.flatMap f).length ≤ m * l.length := by
  induction l with
  | nil => simp
  | cons c r ih => rw [List.flatMap_cons, List.length_append, List.length_cons, Nat.mul_succ]; have := hf c; omega
theorem qbyte_len (c : UInt8) : (qbyte c).length ≤ 2 := by unfold qbyte; split <;> simp
theorem flat_bd (s : ByteArray) (f : UInt8 → List UInt8) (m k : Nat) (hf : ∀ c, (f c).length ≤ m) (hk : k ≤ s.size) : (((us s).take k).flatMap f).length ≤ m * k := by
  have := flat_len ((us s).take k) f m hf
  rwa [take_len s k hk] at this

theorem quote_ok (l : List UInt8) (h : l.any broken = false) : quote l = (34 :: (l.flatMap qbyte ++ [34]), 0) := by unfold quote; rw [h]; rfl
theorem quote_no (l : List UInt8) (h : l.any broken = true) : quote l = ([], 11) := by unfold quote; rw [h]; rfl

set_option maxHeartbeats 1600000 in
theorem quote_c (s : ByteArray) (hs : s.size ≤ 35184372088832) (w : World) :
    Calls Tryd.prog 73 #[.string s] w fun e w' => e = .returned (.tuple #[.string (bs (quote (us s)).1), .int .i64 (quote (us s)).2]) ∧ Below w.heap.size w w' := by
  go_enter Tryd.func73, Tryd.ntmps73
  go_wp2
  go_loopw [4, 10] (fun v i wr => ∃ k : Nat, k ≤ s.size ∧ i = .int .i64 k ∧ Byt wr w.heap.size 5 v (34 :: ((us s).take k).flatMap qbyte) ∧ ((us s).take k).any broken = false ∧ Below w.heap.size w wr) (fun _ i _ => s.size - (intOf i).toNat)
  case atStart => exact ⟨0, Nat.zero_le _, rfl, World.ownsRow_lit w #[.int .u8 34] 1 (Nat.le_refl _) (by decide) rfl, rfl, (Below.refl _ _).alloc (Nat.le_refl _) _⟩
  case round =>
    obtain ⟨k, hk, rfl, hown, hany, hB⟩ := hrel
    have HA := Lib.hid hany; clear hany
    have HL := Lib.hid (flat_bd s qbyte 2 k qbyte_len hk)
    by_cases hlt : k < s.size
    · have ht := Lib.hid (flat_take s qbyte k hlt)
      have ha := Lib.hid (any_take s broken k hlt)
      by_cases hbk : broken s[k] = true
      · have HF := Lib.hid (quote_no (us s) (any_found s broken k hlt hbk))
        have hy := broken_yes s[k] hbk
        clear hbk
        rcases hy with h0 | ⟨h0, h1⟩ | ⟨h0, h1, h2⟩
        all_goals
          go_wp2
          go_ret2
          exact ⟨ret_si (by rw [HF.out]; rfl), hB⟩
      · have hbk' : broken s[k] = false := by simpa using hbk
        have HK := Lib.hid (show ((us s).take (k + 1)).any broken = false by rw [ha.out, HA.out, hbk']; rfl)
        obtain ⟨h0, h1, h2⟩ := broken_no s[k] hbk'
        clear hbk hbk'
        by_cases hbr : bare s[k] = true
        · have HQ := Lib.hid (show qbyte s[k] = [s[k]] by unfold qbyte; rw [hbr]; rfl)
          go_wp2_with (first | (go_at_call 90; refine (bare_c _ _).mono ?_; rintro e w' ⟨rfl, rfl⟩) | (at_builtin; refine wpList_appB1 s[k] rfl rfl rfl Tryd.underlying73 infoB rfl rfl hown hB (Nat.le_refl _) ?_ ?_; (focus (rw [List.length_cons]; have := HL.out; omega)); intro v1 w1 ho1 hb1))
          go_roundw
          case rel => exact ⟨k + 1, by omega, by go_num, ho1.cast (by rw [ht.out, HQ.out]; rfl), HK.out, hb1⟩
          case measure => simp [intOf]; omega
        · have hbr' : bare s[k] = false := by simpa using hbr
          clear hbr
          have HQ := Lib.hid (show qbyte s[k] = [92, s[k]] by unfold qbyte; rw [hbr']; rfl)
          go_wp2_with (first | (go_at_call 90; refine (bare_c _ _).mono ?_; rintro e w' ⟨rfl, rfl⟩) | (at_builtin; refine wpList_appB2 92 s[k] rfl rfl rfl rfl Tryd.underlying73 infoB rfl rfl hown hB (Nat.le_refl _) ?_ ?_; (focus (rw [List.length_cons]; have := HL.out; omega)); intro v1 w1 ho1 hb1))
          go_roundw
          case rel => exact ⟨k + 1, by omega, by go_num, ho1.cast (by rw [ht.out, HQ.out]; rfl), HK.out, hb1⟩
          case measure => simp [intOf]; omega
    · have HF := Lib.hid (quote_ok (us s) (by rw [← HA.out, take_all s k (by omega)]))
      have hown' := Lib.hid (take_all s k (by omega))
      go_wp2_with (first | (at_builtin; refine wpList_appB1 34 rfl rfl rfl Tryd.underlying73 infoB rfl rfl hown hB (Nat.le_refl _) ?_ ?_; (focus (rw [List.length_cons]; have := HL.out; omega)); intro v1 w1 ho1 hb1) | (refine wpList_str rfl rfl Tryd.underlying73 Tryd.underlying5 Tryd.underlying9 rfl ho1 ?_))
      go_ret2
      exact ⟨ret_si (by rw [HF.out, us_bs, hown'.out]), hb1⟩

set_option maxHeartbeats 1600000 in
theorem quoteR_c (s : ByteArray) (hs : s.size ≤ 35184372088832) (w : World) :
    Calls Tryd.prog 74 #[.string s] w fun e w' => e = .returned (.tuple #[.string (bs (quote (us s)).1), .int .i64 (quote (us s)).2]) ∧ Below w.heap.size w w' := by
  go_enter Tryd.func74, Tryd.ntmps74
  go_wp2
  go_loopw [4, 5] (fun v i wr => ∃ k : Nat, k ≤ s.size ∧ i = .int .i64 k ∧ Byt wr w.heap.size 5 v (((us s).take k).flatMap qbyte) ∧ ((us s).take k).any broken = false ∧ Below w.heap.size w wr) (fun _ i _ => s.size - (intOf i).toNat)
  case atStart => exact ⟨0, Nat.zero_le _, rfl, Byt.nil _ _ _, rfl, Below.refl _ _⟩
  case round =>
    obtain ⟨k, hk, rfl, hown, hany, hB⟩ := hrel
    have HA := Lib.hid hany; clear hany
    have HL := Lib.hid (flat_bd s qbyte 2 k qbyte_len hk)
    by_cases hlt : k < s.size
    · have ht := Lib.hid (flat_take s qbyte k hlt)
      have ha := Lib.hid (any_take s broken k hlt)
      by_cases hbk : broken s[k] = true
      · have HF := Lib.hid (quote_no (us s) (any_found s broken k hlt hbk))
        go_wp2_with (go_at_call 86; refine (brokenR_c _ _).mono ?_; rintro e w' ⟨rfl, rfl⟩)
        go_ret2
        exact ⟨ret_si (by rw [HF.out]; rfl), hB⟩
      · have hbk' : broken s[k] = false := by simpa using hbk
        have HK := Lib.hid (show ((us s).take (k + 1)).any broken = false by rw [ha.out, HA.out, hbk']; rfl)
        clear hbk
        by_cases hbr : bare s[k] = true
        · have HQ := Lib.hid (show qbyte s[k] = [s[k]] by unfold qbyte; rw [hbr]; rfl)
          go_wp2_with (first | (go_at_call 86; refine (brokenR_c _ _).mono ?_; rintro e w' ⟨rfl, rfl⟩) | (go_at_call 87; refine (bareR_c _ _).mono ?_; rintro e w' ⟨rfl, rfl⟩) | (at_builtin; refine wpList_appB1 s[k] rfl rfl rfl Tryd.underlying73 infoB rfl rfl hown hB (Nat.le_refl _) ?_ ?_; (focus (have := HL.out; omega)); intro v1 w1 ho1 hb1))
          go_roundw
          case rel => exact ⟨k + 1, by omega, by go_num, ho1.cast (by rw [ht.out, HQ.out]), HK.out, hb1⟩
          case measure => simp [intOf]; omega
        · have hbr' : bare s[k] = false := by simpa using hbr
          clear hbr
          have HQ := Lib.hid (show qbyte s[k] = [92, s[k]] by unfold qbyte; rw [hbr']; rfl)
          go_wp2_with (first | (go_at_call 86; refine (brokenR_c _ _).mono ?_; rintro e w' ⟨rfl, rfl⟩) | (go_at_call 87; refine (bareR_c _ _).mono ?_; rintro e w' ⟨rfl, rfl⟩) | (at_builtin; refine wpList_appB1 92 rfl rfl rfl Tryd.underlying73 infoB rfl rfl hown hB (Nat.le_refl _) ?_ ?_; (focus (have := HL.out; omega)); intro v1 w1 ho1 hb1) | (at_builtin; refine wpList_appB1 s[k] rfl rfl rfl Tryd.underlying73 infoB rfl rfl ho1 hb1 (Nat.le_refl _) ?_ ?_; (focus (simp only [List.length_append, List.length_cons, List.length_nil]; have := HL.out; omega)); intro v2 w2 ho2 hb2))
          go_roundw
          case rel => exact ⟨k + 1, by omega, by go_num, ho2.cast (by rw [ht.out, HQ.out]; simp), HK.out, hb2⟩
          case measure => simp [intOf]; omega
    · have HF := Lib.hid (quote_ok (us s) (by rw [← HA.out, take_all s k (by omega)]))
      have hown' := Lib.hid (take_all s k (by omega))
      obtain ⟨G, hG⟩ : ∃ G, G = ((us s).take k).flatMap qbyte := ⟨_, rfl⟩
      have hGl : G.length ≤ 70368744177664 := by rw [hG]; have := HL.out; omega
      rw [← hG] at hown
      have HG := Lib.hid hG; clear hG HL
      go_wp2_with (refine wpList_str rfl rfl Tryd.underlying73 Tryd.underlying5 Tryd.underlying9 rfl hown ?_)
      go_ret2
      exact ⟨ret_si (by rw [HF.out, us_append, us_append, us_bs, HG.out, hown'.out]; rfl), hB⟩

end Go.Proofs.YteiafgoigfehgaaDoor
