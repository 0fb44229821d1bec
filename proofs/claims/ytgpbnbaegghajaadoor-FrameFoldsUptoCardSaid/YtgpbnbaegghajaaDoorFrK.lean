/-
  rosterref06.line and head.
-/
import Derived.Test.YtgpbnbaegghajaaDoorFrJ
namespace Go.Proofs.YtgpbnbaegghajaaDoor
open Go.RowKit

theorem drop_head (s : ByteArray) (m : Nat) (h : m < s.size) : ((us s).drop m).head? = some s[m] := by rw [drop_us s m h]; rfl
theorem idx_hit (s : ByteArray) (m : Nat) (h : m < s.size) (h' : m + 1 < s.size) (h1 : s[m].toNat = 13) (h2 : s[m + 1].toNat = 10) : idxCR ((us s).drop m) = some 0 := by
  rw [drop_us s m h, idxCR, if_pos]
  exact ⟨h1, by rw [drop_head s (m + 1) h', show s[m + 1] = 10 from UInt8.toNat_inj.1 h2]⟩
theorem idx_skip (s : ByteArray) (m : Nat) (h : m < s.size) (h' : m + 1 < s.size) (hn : ¬ (s[m].toNat = 13 ∧ s[m + 1].toNat = 10)) : idxCR ((us s).drop m) = (idxCR ((us s).drop (m + 1))).map (· + 1) := by
  rw [drop_us s m h, idxCR, if_neg]
  rintro ⟨a, b⟩
  rw [drop_head s (m + 1) h'] at b
  injection b with b
  exact hn ⟨a, by rw [b]; decide⟩
theorem idx_out (s : ByteArray) (m : Nat) (h : s.size ≤ m + 1) : idxCR ((us s).drop m) = none := by
  cases hi : idxCR ((us s).drop m) with
  | none => rfl
  | some n =>
    have := idx_lt _ n hi
    rw [List.length_drop, length_us] at this
    omega

def linePost (r : Option Nat) (s : ByteArray) (k : Nat) : Value := match r with
  | none => .tuple #[.string ⟨#[]⟩, .int .i64 (-1)]
  | some n => .tuple #[.string (s.extract k (k + n)), .int .i64 ((k + n + 2 : Nat) : Int)]

set_option maxHeartbeats 1600000 in
theorem line_c (s : ByteArray) (hs : s.size ≤ 4294967280) (k : Nat) (hk : k ≤ s.size) (w : World) :
    Calls Tryd.prog 64 #[.string s, .int .i64 k] w fun e w' => e = .returned (linePost (idxCR ((us s).drop k)) s k) ∧ w = w' := by
  go_enter Tryd.func64, Tryd.ntmps64
  go_wp2
  go_loop [6] (fun i => ∃ m : Nat, k ≤ m ∧ m ≤ s.size ∧ i = .int .i64 m ∧ idxCR ((us s).drop k) = (idxCR ((us s).drop m)).map (· + (m - k))) (fun i => s.size - (intOf i).toNat)
  case atStart => exact ⟨k, Nat.le_refl _, hk, rfl, by rw [Nat.sub_self]; cases idxCR ((us s).drop k) <;> rfl⟩
  case round =>
    obtain ⟨m, hm1, hm2, rfl, hp⟩ := hrel
    have HP := Lib.hid hp; clear hp
    have w1 : IntKind.i64.wrap ((m : Int) + 1) = (m : Int) + 1 := IntWalk.i64_in _ (by omega)
    by_cases hlt : m + 1 < s.size
    · have hlt0 : m < s.size := by omega
      have z1 : ((m : Int) + 1) < (s.size : Int) := by omega
      have z2 : (0 : Int) ≤ (m : Int) + 1 := by omega
      have e1 : ((m : Int) + 1).toNat = m + 1 := by omega
      by_cases c : s[m].toNat = 13 ∧ s[m + 1].toNat = 10
      · have HF := Lib.hid (show idxCR ((us s).drop k) = some (m - k) by rw [HP.out, idx_hit s m hlt0 hlt c.1 c.2]; simp)
        have t1 : ((s[m].toNat : Int) == 13) = true := by simp; omega
        have t2 : ((s[m + 1].toNat : Int) == 10) = true := by simp; omega
        have w2 : IntKind.i64.wrap ((m : Int) + 2) = (m : Int) + 2 := IntWalk.i64_in _ (by omega)
        have q1 : (0 : Int) ≤ (k : Int) := by omega
        have q2 : (k : Int) ≤ (m : Int) := by omega
        have q3 : (m : Int) ≤ (s.size : Int) := by omega
        have q4 : (0 : Int) ≤ (m : Int) := by omega
        clear c
        go_wp2
        refine bodyPost_ret (v := .tuple #[.string (s.extract k m), .int .i64 ((m : Int) + 2)]) (by simp [results, Tryd.results64, go_sem]) rfl ?_
        refine ⟨?_, rfl⟩
        rw [HF.out]
        unfold linePost
        dsimp only
        rw [show k + (m - k) = m by omega]; rfl
      · have HF := Lib.hid (show idxCR ((us s).drop k) = (idxCR ((us s).drop (m + 1))).map (· + (m + 1 - k)) by
          rw [HP.out, idx_skip s m hlt0 hlt c]
          cases idxCR ((us s).drop (m + 1)) with
          | none => rfl
          | some n => show some (n + 1 + (m - k)) = some (n + (m + 1 - k)); congr 1; omega)
        have hc : (((s[m].toNat : Int) == 13) = false) ∨ (((s[m].toNat : Int) == 13) = true ∧ ((s[m + 1].toNat : Int) == 10) = false) := by
          by_cases a : s[m].toNat = 13
          · right; refine ⟨by simp; omega, ?_⟩
            have : ¬ s[m + 1].toNat = 10 := fun b => c ⟨a, b⟩
            simp; omega
          · left; simp; omega
        clear c
        rcases hc with t1 | ⟨t1, t2⟩
        all_goals
          go_wp2
          go_round
          case rel => exact ⟨m + 1, by omega, by omega, by go_num, HF.out⟩
          case measure => simp [intOf]; omega
    · have HF := Lib.hid (show idxCR ((us s).drop k) = none by rw [HP.out, idx_out s m (by omega)]; rfl)
      have z1 : ¬ (((m : Int) + 1) < (s.size : Int)) := by omega
      go_wp2
      refine bodyPost_ret (v := .tuple #[.string ⟨#[]⟩, .int .i64 (-1)]) (by simp [results, Tryd.results64, go_sem]) rfl ?_
      exact ⟨by rw [HF.out]; rfl, rfl⟩


end Go.Proofs.YtgpbnbaegghajaaDoor
