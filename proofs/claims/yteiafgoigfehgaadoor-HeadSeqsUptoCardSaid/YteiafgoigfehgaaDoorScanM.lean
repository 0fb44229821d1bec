/-
  rosterref01.Parts.
-/
import Derived.Test.YteiafgoigfehgaaDoorMem3
import Derived.Test.YteiafgoigfehgaaDoorScanJ
namespace Go.Proofs.YteiafgoigfehgaaDoor
open Go.RowKit

theorem pg_esc2 (sep : UInt8) (a : Bool) (cur : List UInt8) (s : ByteArray) (k : Nat) (h : k + 1 < s.size) (hc : s[k].toNat = 92) :
    partsGo sep true a cur ((us s).drop k) = partsGo sep true a ((cur ++ [s[k]]) ++ [s[k + 1]]) ((us s).drop (k + 2)) := by
  rw [drop_us s k (by omega), drop_us s (k + 1) h]; simp [partsGo, hc]
theorem pg_esc1 (sep : UInt8) (a : Bool) (cur : List UInt8) (s : ByteArray) (k : Nat) (h : k < s.size) (h1 : ¬ k + 1 < s.size) (hc : s[k].toNat = 92) :
    partsGo sep true a cur ((us s).drop k) = partsGo sep true a (cur ++ [s[k]]) ((us s).drop (k + 1)) := by
  rw [drop_us s k h, drop_us_end s (k + 1) (by omega)]; simp [partsGo, hc]

set_option maxRecDepth 100000 in
set_option maxHeartbeats 6400000 in
theorem partsR_c (s : ByteArray) (hs : s.size ≤ 4294967280) (sep : UInt8) (w : World) :
    Calls Tryd.prog 43 #[.string s, .int .u8 sep.toNat] w fun e w' => ∃ v, e = .returned v ∧ RStrs w' v (parts (us s) sep) ∧ Below w.heap.size w w' := by
  go_enter Tryd.func43, Tryd.ntmps43
  go_wp2
  go_loopw [5, 6, 7, 8, 9] (fun v vb qq aa i wr => ∃ (k : Nat) (q a : Bool) (cur : List UInt8) (L : List (List UInt8)), k ≤ s.size ∧ i = .int .i64 k ∧ qq = .bool q ∧ aa = .bool a ∧ L.length ≤ k ∧ cur.length ≤ k ∧ Strs wr w.heap.size 9 v L ∧ Byt wr w.heap.size 5 vb cur ∧ parts (us s) sep = L ++ partsGo sep q a cur ((us s).drop k) ∧ Below w.heap.size w wr) (fun _ _ _ _ i _ => s.size - (intOf i).toNat)
  case atStart => exact ⟨0, false, false, [], [], Nat.zero_le _, rfl, rfl, rfl, Nat.le_refl _, Nat.le_refl _, Strs.nil _ _ _, Byt.nil _ _ _, rfl, Below.refl _ _⟩
  case round =>
    obtain ⟨k, q, a, cur, L, hk, rfl, rfl, rfl, hl, hcl, hown, hownB, hp, hB⟩ := hrel
    have HP := Lib.hid hp; clear hp
    by_cases hlt : k < s.size
    · have hd := Lib.hid (drop_us s k hlt)
      by_cases hA : q = true ∧ s[k].toNat = 92
      · obtain ⟨rfl, h92⟩ := hA
        have t92 : ((s[k].toNat : Int) == 92) = true := by simp; omega
        by_cases hk1 : k + 1 < s.size
        · have HN := Lib.hid (show parts (us s) sep = L ++ partsGo sep true a ((cur ++ [s[k]]) ++ [s[k + 1]]) ((us s).drop (k + 2)) by rw [HP.out, pg_esc2 sep a _ s k hk1 h92])
          clear h92
          go_wp2_with (first | (at_builtin; refine wpList_appK_B s[k] rfl rfl rfl Tryd.underlying73 infoB rfl rfl hownB hB (Nat.le_refl _) ?_ ?_; (focus omega); intro v1 w1 ho1 hb1 hk1') | (at_builtin; refine wpList_appK_B s[k + 1] rfl rfl rfl Tryd.underlying73 infoB rfl rfl ho1 hb1 (Nat.le_refl _) ?_ ?_; (focus (rw [List.length_append]; simp; omega)); intro v2 w2 ho2 hb2 hk2'))
          go_roundw
          case rel => exact ⟨k + 2, true, a, _, L, by omega, by go_num, rfl, rfl, by omega, by simp; omega, (hown.kept hk1' (by decide)).kept hk2' (by decide), ho2, HN.out, hb2⟩
          case measure => simp [intOf]; omega
        · have HN := Lib.hid (show parts (us s) sep = L ++ partsGo sep true a (cur ++ [s[k]]) ((us s).drop (k + 1)) by rw [HP.out, pg_esc1 sep a _ s k hlt hk1 h92])
          clear h92
          go_wp2_with (at_builtin; refine wpList_appK_B s[k] rfl rfl rfl Tryd.underlying73 infoB rfl rfl hownB hB (Nat.le_refl _) ?_ ?_; (focus omega); intro v1 w1 ho1 hb1 hk1')
          go_roundw
          case rel => exact ⟨k + 1, true, a, _, L, by omega, by go_num, rfl, rfl, by omega, by simp; omega, hown.kept hk1' (by decide), ho1, HN.out, hb1⟩
          case measure => simp [intOf]; omega
      have hpg := Lib.hid (pg_cons sep q a cur s[k] ((us s).drop (k + 1)) hA)
      by_cases h34 : s[k].toNat = 34
      · have HN := Lib.hid (show parts (us s) sep = L ++ partsGo sep (!q) a (cur ++ [s[k]]) ((us s).drop (k + 1)) by rw [HP.out, hd.out, hpg.out, if_pos h34])
        have t92 : ((s[k].toNat : Int) == 92) = false := by simp; omega
        have t34 : ((s[k].toNat : Int) == 34) = true := by simp; omega
        have u34 : ((s[k].toNat : Int) != 34) = false := by simp; omega
        have t60 : ((s[k].toNat : Int) == 60) = false := by simp; omega
        have t62 : ((s[k].toNat : Int) == 62) = false := by simp; omega
        clear h34 hA
        cases q <;> cases a <;> cases tsep : ((s[k].toNat : Int) == (sep.toNat : Int))
        all_goals
          go_wp2_with (at_builtin; refine wpList_appK_B s[k] rfl rfl rfl Tryd.underlying73 infoB rfl rfl hownB hB (Nat.le_refl _) ?_ ?_; (focus omega); intro v1 w1 ho1 hb1 hk1')
          go_roundw
          case rel => exact ⟨k + 1, _, _, _, L, by omega, by go_num, rfl, rfl, by omega, by simp; omega, hown.kept hk1' (by decide), ho1, HN.out, hb1⟩
          case measure => simp [intOf]; omega
      have t34 : ((s[k].toNat : Int) == 34) = false := by simp; omega
      have u34 : ((s[k].toNat : Int) != 34) = true := by simp; omega
      have N34 := Lib.hid h34
      clear h34
      cases q with
      | true =>
        have t92 : ((s[k].toNat : Int) == 92) = false := by simp; simp at hA; omega
        clear hA
        have HN := Lib.hid (show parts (us s) sep = L ++ partsGo sep true a (cur ++ [s[k]]) ((us s).drop (k + 1)) by rw [HP.out, hd.out, hpg.out, if_neg N34.out, if_pos rfl])
        go_wp2_with (at_builtin; refine wpList_appK_B s[k] rfl rfl rfl Tryd.underlying73 infoB rfl rfl hownB hB (Nat.le_refl _) ?_ ?_; (focus omega); intro v1 w1 ho1 hb1 hk1')
        go_roundw
        case rel => exact ⟨k + 1, _, _, _, L, by omega, by go_num, rfl, rfl, by omega, by simp; omega, hown.kept hk1' (by decide), ho1, HN.out, hb1⟩
        case measure => simp [intOf]; omega
      | false =>
        clear hA
        by_cases h60 : s[k].toNat = 60
        · have HN := Lib.hid (show parts (us s) sep = L ++ partsGo sep false true (cur ++ [s[k]]) ((us s).drop (k + 1)) by rw [HP.out, hd.out, hpg.out, if_neg N34.out, if_neg (by decide), if_pos h60])
          have t60 : ((s[k].toNat : Int) == 60) = true := by simp; omega
          have u60 : ((s[k].toNat : Int) != 60) = false := by simp; omega
          have t62 : ((s[k].toNat : Int) == 62) = false := by simp; omega
          clear h60
          cases a <;> cases tsep : ((s[k].toNat : Int) == (sep.toNat : Int))
          all_goals
            go_wp2_with (at_builtin; refine wpList_appK_B s[k] rfl rfl rfl Tryd.underlying73 infoB rfl rfl hownB hB (Nat.le_refl _) ?_ ?_; (focus omega); intro v1 w1 ho1 hb1 hk1')
            go_roundw
            case rel => exact ⟨k + 1, _, _, _, L, by omega, by go_num, rfl, rfl, by omega, by simp; omega, hown.kept hk1' (by decide), ho1, HN.out, hb1⟩
            case measure => simp [intOf]; omega
        have t60 : ((s[k].toNat : Int) == 60) = false := by simp; omega
        have u60 : ((s[k].toNat : Int) != 60) = true := by simp; omega
        have N60 := Lib.hid h60
        clear h60
        by_cases h62 : s[k].toNat = 62
        · have HN := Lib.hid (show parts (us s) sep = L ++ partsGo sep false false (cur ++ [s[k]]) ((us s).drop (k + 1)) by rw [HP.out, hd.out, hpg.out, if_neg N34.out, if_neg (by decide), if_neg N60.out, if_pos h62])
          have t62 : ((s[k].toNat : Int) == 62) = true := by simp; omega
          have u62 : ((s[k].toNat : Int) != 62) = false := by simp; omega
          clear h62
          cases a <;> cases tsep : ((s[k].toNat : Int) == (sep.toNat : Int))
          all_goals
            go_wp2_with (at_builtin; refine wpList_appK_B s[k] rfl rfl rfl Tryd.underlying73 infoB rfl rfl hownB hB (Nat.le_refl _) ?_ ?_; (focus omega); intro v1 w1 ho1 hb1 hk1')
            go_roundw
            case rel => exact ⟨k + 1, _, _, _, L, by omega, by go_num, rfl, rfl, by omega, by simp; omega, hown.kept hk1' (by decide), ho1, HN.out, hb1⟩
            case measure => simp [intOf]; omega
        have t62 : ((s[k].toNat : Int) == 62) = false := by simp; omega
        have u62 : ((s[k].toNat : Int) != 62) = true := by simp; omega
        have N62 := Lib.hid h62
        clear h62
        by_cases hsp : s[k].toNat = sep.toNat ∧ a = false
        · obtain ⟨hs1, rfl⟩ := hsp
          have HN := Lib.hid (show parts (us s) sep = (L ++ [cur]) ++ partsGo sep false false [] ((us s).drop (k + 1)) by rw [HP.out, hd.out, hpg.out, if_neg N34.out, if_neg (by decide), if_neg N60.out, if_neg N62.out, if_pos ⟨hs1, rfl⟩]; simp)
          have tsp : ((s[k].toNat : Int) == (sep.toNat : Int)) = true := by simp; omega
          clear hs1
          go_wp2_with (first | (refine wpList_str rfl rfl Tryd.underlying73 Tryd.underlying5 Tryd.underlying9 rfl hownB ?_) | (at_builtin; refine wpList_appK_S cur (us_bs _) rfl rfl Tryd.underlying22 infoS rfl rfl hown hB (Nat.le_refl _) ?_ ?_; (focus omega); intro v1 w1 ho1 hb1 hk1'))
          go_roundw
          case rel => exact ⟨k + 1, false, false, [], _, by omega, by go_num, rfl, rfl, by simp; omega, by simp, ho1, Byt.nil _ _ _, HN.out, hb1⟩
          case measure => simp [intOf]; omega
        have HN := Lib.hid (show parts (us s) sep = L ++ partsGo sep false a (cur ++ [s[k]]) ((us s).drop (k + 1)) by rw [HP.out, hd.out, hpg.out, if_neg N34.out, if_neg (by decide), if_neg N60.out, if_neg N62.out, if_neg hsp])
        have hsp' : (((s[k].toNat : Int) == (sep.toNat : Int)) = true ∧ a = true) ∨ ((s[k].toNat : Int) == (sep.toNat : Int)) = false := by
          cases a
          · right; simp; simp at hsp; omega
          · by_cases h : s[k].toNat = sep.toNat
            · left; exact ⟨by simp; omega, rfl⟩
            · right; simp; omega
        clear hsp
        rcases hsp' with ⟨tsp, rfl⟩ | tsp
        · skip
          go_wp2_with (at_builtin; refine wpList_appK_B s[k] rfl rfl rfl Tryd.underlying73 infoB rfl rfl hownB hB (Nat.le_refl _) ?_ ?_; (focus omega); intro v1 w1 ho1 hb1 hk1')
          go_roundw
          case rel => exact ⟨k + 1, _, _, _, L, by omega, by go_num, rfl, rfl, by omega, by simp; omega, hown.kept hk1' (by decide), ho1, HN.out, hb1⟩
          case measure => simp [intOf]; omega
        · cases a
          all_goals
            go_wp2_with (at_builtin; refine wpList_appK_B s[k] rfl rfl rfl Tryd.underlying73 infoB rfl rfl hownB hB (Nat.le_refl _) ?_ ?_; (focus omega); intro v1 w1 ho1 hb1 hk1')
            go_roundw
            case rel => exact ⟨k + 1, _, _, _, L, by omega, by go_num, rfl, rfl, by omega, by simp; omega, hown.kept hk1' (by decide), ho1, HN.out, hb1⟩
            case measure => simp [intOf]; omega
    · have HN := Lib.hid (show parts (us s) sep = L ++ [cur] by rw [HP.out, drop_us_end s k (by omega)]; simp [partsGo])
      go_wp2_with (first | (refine wpList_str rfl rfl Tryd.underlying73 Tryd.underlying5 Tryd.underlying9 rfl hownB ?_) | (at_builtin; refine wpList_appK_S cur (us_bs _) rfl rfl Tryd.underlying22 infoS rfl rfl hown hB (Nat.le_refl _) ?_ ?_; (focus omega); intro v1 w1 ho1 hb1 hk1'))
      go_ret
      exact ⟨_, rfl, (ho1.cast HN.out.symm).read, hb1⟩

end Go.Proofs.YteiafgoigfehgaaDoor
