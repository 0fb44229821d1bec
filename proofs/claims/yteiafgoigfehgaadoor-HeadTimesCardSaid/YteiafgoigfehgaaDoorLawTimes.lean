/-
  The law HeadTimes: the walk.
-/
import Derived.Test.YteiafgoigfehgaaDoorTimesP
import Derived.Test.YteiafgoigfehgaaDoorAwake8
namespace Go.Proofs.YteiafgoigfehgaaDoor
open Go.RowKit

theorem rep_snoc (k : Nat) : us (bs (List.replicate k 48) ++ ⟨#[48]⟩) = List.replicate (k + 1) 48 := by
  rw [us_append, us_bs, List.replicate_succ']; rfl
theorem all_bad (s : ByteArray) (k : Nat) (h : k < s.size) (hs : isDig s[k] = false) : (us s).all isDig = false := by
  rw [← Bool.not_eq_true, List.all_eq_true]
  intro hall
  have := hall s[k] (List.mem_of_getElem? (get_us s k h))
  rw [hs] at this; cases this
theorem all_more (s : ByteArray) (k : Nat) (h : k < s.size) (hs : isDig s[k] = true) (hp : ((us s).take k).all isDig = true) : ((us s).take (k + 1)).all isDig = true := by
  rw [take_us s k h, List.all_append, hp]; simp [hs]

set_option maxHeartbeats 3200000 in
theorem headTimes_walk (n : Int) (n0 : 0 ≤ n) (n1 : n ≤ 4294967295) (c : UInt8) (s : ByteArray) (hs : s.size ≤ 140737488351232) (w : World) (hm : Ml w) :
    Calls Tryd.prog 5 #[.int .u32 n, .int .u8 c.toNat, .string s] w fun e w' => e = .returned (.bool true) ∧ Below w.heap.size w w' := by
  have HM := Lib.hid hm
  clear hm
  have hc := c.toNat_lt
  go_enter Tryd.func5, Tryd.ntmps5
  go_wp2
  go_loop [7, 8] (fun t i => ∃ k : Nat, k ≤ c.toNat % 20 ∧ i = .int .i64 k ∧ t = .string (bs (List.replicate k 48))) (fun _ i => c.toNat % 20 - (intOf i).toNat)
  case atStart => exact ⟨0, Nat.zero_le _, rfl, rfl⟩
  case round =>
    obtain ⟨k, hk, rfl, rfl⟩ := hrel
    by_cases hlt : k < c.toNat % 20
    · have q1 : (k : Int) < ((c.toNat : Int) % 20) := by omega
      have hsz : (bs (List.replicate k 48)).size = k := by rw [size_bs, List.length_replicate]
      go_wp2
      go_round
      case rel => exact ⟨k + 1, by omega, by go_num, by rw [← rep_snoc k, bs_us]⟩
      case measure => simp [intOf]; omega
    · obtain rfl : k = c.toNat % 20 := by omega
      have q1 : ((c.toNat : Int) % 20) ≤ ((c.toNat % 20 : Nat) : Int) := by omega
      obtain ⟨m, hm⟩ : ∃ m, m = c.toNat % 20 := ⟨_, rfl⟩
      have hm20 : m < 20 := by omega
      rw [← hm] at q1 ⊢
      clear hm hk hlt
      have HD := Lib.hid (fun wx => digits_c n (by omega) (by omega) wx)
      have hds : (bs (digits n)).size ≤ 20 := by rw [size_bs]; exact digits_len n
      have hts : (bs (List.replicate m 48)).size ≤ 20 := by rw [size_bs, List.length_replicate]; omega
      have HT1 := Lib.hid (fun wx => time_c (⟨#[32]⟩ ++ bs (List.replicate m 48) ++ bs (digits n) ++ ⟨#[9]⟩) (by simp only [ByteArray.size_append]; have e1 : (⟨#[32]⟩ : ByteArray).size = 1 := rfl; have e2 : (⟨#[9]⟩ : ByteArray).size = 1 := rfl; omega) wx)
      have e1 : us (⟨#[32]⟩ ++ bs (List.replicate m 48) ++ bs (digits n) ++ ⟨#[9]⟩) = 32 :: (List.replicate m 48 ++ digits n ++ [9]) := by
        simp only [us_append, us_bs]; rw [show us ⟨#[32]⟩ = [32] from rfl, show us ⟨#[9]⟩ = [9] from rfl]; simp
      rw [e1, time_one n n0 n1 m] at HT1
      clear e1
      have HT2 := Lib.hid (fun wx => time_c (bs (digits n) ++ s) (by rw [ByteArray.size_append]; omega) wx)
      have e2 : us (bs (digits n) ++ s) = digits n ++ us s := by rw [us_append, us_bs]
      rw [e2] at HT2
      clear e2
      have HX := Lib.hid (time_two n n0 n1 (us s))
      obtain ⟨p, hp⟩ : ∃ p, p = timeS (digits n ++ us s) := ⟨_, rfl⟩
      rw [← hp] at HT2 HX
      clear hp
      obtain ⟨pb, pf⟩ := p
      dsimp only at HT2 HX
      obtain ⟨D, hD⟩ : ∃ D, D = bs (digits n) := ⟨_, rfl⟩
      rw [← hD] at HD HT1 HT2 hds
      obtain ⟨T, hT⟩ : ∃ T, T = bs (List.replicate m 48) := ⟨_, rfl⟩
      rw [← hT] at HT1 hts ⊢
      clear hD hT
      have h32 : (⟨#[32]⟩ : ByteArray).size = 1 := rfl
      have h9 : (⟨#[9]⟩ : ByteArray).size = 1 := rfl
      obtain ⟨v, hv, hv0, hv1⟩ : ∃ v, v = min n 2147483647 ∧ 0 ≤ v ∧ v ≤ 2147483647 := ⟨_, rfl, by omega, by omega⟩
      rw [← hv] at HT1 HX
      have tv : (v != min n 2147483647) = false := by rw [hv]; simp
      clear hv
      have hB0 : Below w.heap.size w w := Below.refl _ _
      go_wp2_with (first | (go_at_call 17; refine (HD.out _).mono ?_; rintro e wd ⟨rfl, hC⟩; replace hB0 := hB0.trans (hC.mono hB0.size); clear hC) | (go_at_call 16; first | ((with_reducible refine (HT1.out _).mono ?_); rintro e wx ⟨rfl, rfl⟩) | ((with_reducible refine (HT2.out _).mono ?_); rintro e wx ⟨rfl, rfl⟩)))
      go_loopw [14] (fun i wr => ∃ k : Nat, k ≤ s.size ∧ i = .int .i64 k ∧ ((us s).take k).all isDig = true ∧ Below w.heap.size w wr) (fun i _ => s.size - (intOf i).toNat)
      case atStart => exact ⟨0, Nat.zero_le _, rfl, rfl, hB0⟩
      case round =>
        obtain ⟨k, hk, rfl, hd, hB⟩ := hrel
        have HDg := Lib.hid hd
        clear hd
        have HW := Lib.hid (awake_c _ (HM.out.below hB))
        by_cases hlt : k < s.size
        · cases hdg : isDig s[k]
          · have hne : (s[k].toNat : Int) < 48 ∨ ¬ ((s[k].toNat : Int) < 48) ∧ 57 < (s[k].toNat : Int) := by
              have := isDig_iff s[k]; rw [hdg] at this; simp at this; omega
            rcases hne with hne | ⟨hne, hne'⟩
            all_goals
              go_wp2_with (go_at_call 15; refine (HW.out).mono ?_; rintro e wx ⟨rfl, hC⟩)
              go_ret
              exact ⟨rfl, hB.trans (hC.mono hB.size)⟩
          · have HG := Lib.hid (all_more s k hlt hdg HDg.out)
            have hne : ¬ ((s[k].toNat : Int) < 48) ∧ ¬ (57 < (s[k].toNat : Int)) := by
              have := (isDig_iff s[k]).1 hdg; omega
            obtain ⟨hne, hne'⟩ := hne
            go_wp2
            go_roundw
            case rel => exact ⟨k + 1, by omega, by go_num, HG.out, hB⟩
            case measure => simp [intOf]; omega
        · have hall : (us s).all isDig = true := by rw [← take_all s k (by omega)]; exact HDg.out
          obtain ⟨rfl, hge, hle⟩ := HX.out hall
          clear hall
          go_wp2_with (go_at_call 15; refine (HW.out).mono ?_; rintro e wx ⟨rfl, hC⟩)
          go_ret
          exact ⟨rfl, hB.trans (hC.mono hB.size)⟩

end Go.Proofs.YteiafgoigfehgaaDoor
