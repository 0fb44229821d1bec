/-
  The statement ScanPieces: what the Go function answers.
-/
import Derived.Test.YtbkeommlolcaiaaLawA4
import Derived.Test.YtbkeommlolcaiaaRow2
namespace Go.Proofs.Ytbkeommlolcaiaa
open Go.RowKit

theorem plain_take (s : ByteArray) (k : Nat) (h : k < s.size) (h1 : ((s[k].toNat : Int) == 34) = false) (h2 : ((s[k].toNat : Int) == 60) = false) (h3 : ((s[k].toNat : Int) == 62) = false)
    (hp : plainText ((us s).take k) = true) : plainText ((us s).take (k + 1)) = true := by
  rw [take_us s k h]; unfold plainText at *
  rw [List.all_append, hp]
  simp at h1 h2 h3
  simp; omega
theorem one_cell (wx : World) (e : TypeId) (c : UInt8) (j : Nat) (hj : j < [c].length) : (wx.alloc (.cells #[.int .u8 c.toNat] e)).cell? ⟨wx.heap.size, 0 + j, none⟩ = some (bv [c][j]) := by
  have h0 : j = 0 := by simpa using hj
  subst h0
  unfold World.alloc World.cell?; simp [bv]
theorem plain_left (a b : List UInt8) (h : plainText (a ++ b) = true) : plainText a = true := by
  unfold plainText at *; rw [List.all_append] at h; simp only [Bool.and_eq_true] at h; exact h.1
theorem plain_right (a b : List UInt8) (h : plainText (a ++ b) = true) : plainText b = true := by
  unfold plainText at *; rw [List.all_append] at h; simp only [Bool.and_eq_true] at h; exact h.2

theorem partsGo_len (sep : UInt8) : ∀ (n : Nat) (l : List UInt8) (q a : Bool) (cur : List UInt8), l.length ≤ n → (partsGo sep q a cur l).length ≤ n + 1
  | n, [], q, a, cur, _ => by simp [partsGo]
  | 0, c :: r, q, a, cur, h => by simp at h
  | n + 1, c :: r, q, a, cur, h => by
    have hr : r.length ≤ n := by simpa using h
    by_cases hA : q = true ∧ c.toNat = 92
    · obtain ⟨rfl, h92⟩ := hA
      rw [pgo_esc sep a cur c r h92]
      cases r with
      | nil => simp
      | cons d r' => have := partsGo_len sep n r' true a (cur ++ [c, d]) (by simp at hr; omega); simp only; omega
    · rw [pgo_cons sep q a cur c r hA]
      repeat' split
      all_goals first
        | (have h1 := partsGo_len sep n r q a [] hr; rw [List.length_cons]; omega)
        | exact Nat.le_succ_of_le (partsGo_len sep n r _ _ _ hr)
theorem parts_len (sep : UInt8) (s : ByteArray) (h : s.size ≤ 2000) : (parts (us s) sep).length ≤ 2001 := by
  have h1 := partsGo_len sep (us s).length (us s) false false [] (Nat.le_refl _)
  rw [length_us] at h1
  exact Nat.le_trans h1 (by omega)

set_option maxHeartbeats 3200000 in
theorem pieces_law (s : ByteArray) (hs : s.size ≤ 140737488351232) (t : ByteArray) (ht : t.size ≤ 140737488351232) (c : UInt8) (w : World) :
    Calls Try.prog 4 #[.string s, .string t, .int .u8 c.toNat] w fun e w' => e = .returned (.bool true) ∧ Below w.heap.size w w' := by
  have hcase : (((c.toNat : Int) == 34) = true) ∨ (((c.toNat : Int) == 34) = false ∧ ((c.toNat : Int) == 60) = true) ∨ (((c.toNat : Int) == 34) = false ∧ ((c.toNat : Int) == 60) = false ∧ ((c.toNat : Int) == 62) = true)
      ∨ (((c.toNat : Int) == 34) = false ∧ ((c.toNat : Int) == 60) = false ∧ ((c.toNat : Int) == 62) = false ∧ 2000 < s.size)
      ∨ (((c.toNat : Int) == 34) = false ∧ ((c.toNat : Int) == 60) = false ∧ ((c.toNat : Int) == 62) = false ∧ s.size ≤ 2000 ∧ 2000 < t.size)
      ∨ (((c.toNat : Int) == 34) = false ∧ ((c.toNat : Int) == 60) = false ∧ ((c.toNat : Int) == 62) = false ∧ s.size ≤ 2000 ∧ t.size ≤ 2000) := by
    simp only [beq_eq_false_iff_ne, beq_iff_eq]; omega
  have hB := bel0 w
  rcases hcase with h1 | ⟨h1, h2⟩ | ⟨h1, h2, h3⟩ | ⟨h1, h2, h3, h4⟩ | ⟨h1, h2, h3, h4, h5⟩ | ⟨h1, h2, h3, h4, h5⟩
  case inr.inr.inr.inr.inr =>
    have hsep : c.toNat ≠ 34 ∧ c.toNat ≠ 60 ∧ c.toNat ≠ 62 := by simp at h1 h2 h3; omega
    have HS := Lib.hid hsep
    clear hsep
    have hst : (s ++ t).size = s.size + t.size := ByteArray.size_append
    go_enter Try.func4, Try.ntmps4
    go_wp2
    clear h1 h2 h3
    go_loopw [7] (fun i wr => ∃ k : Nat, k ≤ (s ++ t).size ∧ i = .int .i64 k ∧ plainText ((us (s ++ t)).take k) = true ∧ wr = w) (fun i _ => (s ++ t).size - (intOf i).toNat)
    case atStart => exact ⟨0, Nat.zero_le _, rfl, rfl, rfl⟩
    case round =>
      obtain ⟨k, hk, rfl, hp, rfl⟩ := hrel
      have HP := Lib.hid hp; clear hp
      by_cases hlt : k < (s ++ t).size
      · have hpt := Lib.hid (plain_take (s ++ t) k hlt)
        cases e1 : (((s ++ t)[k].toNat : Int) == 34) <;> cases e2 : (((s ++ t)[k].toNat : Int) == 60) <;> cases e3 : (((s ++ t)[k].toNat : Int) == 62)
        case false.false.false =>
          have HN := Lib.hid (hpt.out e1 e2 e3 HP.out)
          go_wp2_with fail
          go_roundw
          case rel => exact ⟨k + 1, by omega, by go_num, HN.out, trivial⟩
          case measure => simp [intOf]; omega
        all_goals
          go_wp2_with (go_at_call 13; refine (awake_c _).mono ?_; rintro e wx ⟨rfl, hC⟩; replace hB := hB.trans (hC.mono hB.size))
          go_ret
          exact ⟨by simp, hB⟩
      · have hpl : plainText (us s ++ us t) = true := by rw [← us_append, ← take_all (s ++ t) k (by omega)]; exact HP.out
        have hP : parts (us s ++ c :: us t) c = parts (us s) c ++ parts (us t) c := parts_pieces c (us t) HS.out (us s) [] (plain_left _ _ hpl)
        have HA := Lib.hid (fun wx => parts_c s (by omega) c wx)
        have HT := Lib.hid (fun wx => parts_c t (by omega) c wx)
        have hu : us (s ++ bs [c] ++ t) = us s ++ c :: us t := by rw [us_append, us_append, us_bs]; simp
        have hz : (s ++ bs [c] ++ t).size = s.size + 1 + t.size := by rw [ByteArray.size_append, ByteArray.size_append, size_bs]; rfl
        have HW := Lib.hid (fun wx => parts_c (s ++ bs [c] ++ t) (by omega) c wx)
        rw [hu, hP] at HW
        have l1 := parts_len c s h4
        have l2 := parts_len c t h5
        have n1 : parts (us s) c ≠ [] := partsGo_ne c (us s) false false []
        have n2 : parts (us t) c ≠ [] := partsGo_ne c (us t) false false []
        clear hpl hP hu HS HP
        obtain ⟨A, hA⟩ : ∃ A, A = parts (us s) c := ⟨_, rfl⟩
        obtain ⟨B, hBe⟩ : ∃ B, B = parts (us t) c := ⟨_, rfl⟩
        rw [← hA] at HA HW l1 n1
        rw [← hBe] at HT HW l2 n2
        clear hA hBe
        have N1 := Lib.hid n1
        have N2 := Lib.hid n2
        have LL := Lib.hid (And.intro l1 l2)
        clear n1 n2 l1 l2
        have hsb : (bs [c]).size = 1 := size_bs [c]
        go_wp2_with (refine wpList_strAt (l := [c]) rfl rfl Try.underlying25 Try.underlying5 Try.underlying9 rfl rfl ?_ ?_; (focus (exact one_cell _ _ _)))
        refine (HW.out _).mono ?_
        rintro e w1 ⟨v1, rfl, hR1, hC⟩
        have hA0 : Below wr.heap.size wr w1 := by
          have h0 : Below wr.heap.size wr (wr.alloc (Obj.cells #[Value.int IntKind.u8 ↑c.toNat] 5)) := (Below.refl _ wr).alloc (Nat.le_refl _) _
          exact h0.trans (hC.mono h0.size)
        clear hC
        go_wp2_with fail
        refine (HA.out _).mono ?_
        rintro e w2 ⟨v2, rfl, hR2, hC2⟩
        have hown2 := (Strs.built w1 w1.heap.size 9 (Nat.le_refl _)).below hC2 (Nat.le_refl _)
        have hb0 : Below w1.heap.size w1 (w1.alloc (Obj.cells #[] 9)) := (Below.refl _ w1).alloc (Nat.le_refl _) _
        have hb2 := hb0.trans (hC2.mono hb0.size)
        clear hb0 hC2
        go_wp2_with (at_builtin; refine wpList_appR rfl rfl Try.underlying22 infoS rfl hR2 N1.out rfl hown2 hb2 (Nat.le_refl _) ?_ ?_; (focus (have := LL.out; simp; omega)); intro v3 w3 ho3 hb3)
        refine (HT.out _).mono ?_
        rintro e w4 ⟨v4, rfl, hR4, hC4⟩
        have hown4 := ho3.below hC4 (Nat.le_refl _)
        have hb4 := hb3.trans (hC4.mono hb3.size)
        clear hC4 ho3 hb2 hb3
        go_wp2_with (at_builtin; refine wpList_appR rfl rfl Try.underlying22 infoS rfl hR4 N2.out rfl hown4 hb4 (Nat.le_refl _) ?_ ?_; (focus (have := LL.out; simp; omega)); intro v5 w5 ho5 hb5)
        have HX := Lib.hid (texts_c v1 v5 (A ++ B) ([] ++ A ++ B) w5 (hR1.below hb5 (Nat.le_refl _)) ho5.read)
        have eAB : ([] ++ A ++ B : List (List UInt8)) = A ++ B := by simp
        rw [eAB] at HX
        have eBB : (A ++ B == A ++ B) = true := by simp
        rw [eBB] at HX
        clear eAB eBB
        have hB := hA0.trans (hb5.mono hA0.size)
        refine (HX.out).mono ?_
        rintro e w6 ⟨rfl, hD6⟩
        replace hB := hB.trans (hD6.below (B := wr.heap.size))
        go_wp2_with fail
        refine (awake_c _).mono ?_
        rintro e w7 ⟨rfl, hC7⟩
        replace hB := hB.trans (hC7.mono hB.size)
        go_wp2_with fail
        go_ret
        exact ⟨by simp, hB⟩
  all_goals
    go_enter Try.func4, Try.ntmps4
    go_wp2_with (go_at_call 13; refine (awake_c _).mono ?_; rintro e wx ⟨rfl, hC⟩; replace hB := hB.trans (hC.mono hB.size))
    go_ret
    exact ⟨by simp, hB⟩

end Go.Proofs.Ytbkeommlolcaiaa
