/- Contracts of Go functions, and plain laws. No condition but those told. -/
import Derived.Test.YtgkilllbkljibaaGreatDoorR07
import Derived.Test.YtgkilllbkljibaaGreatDoorR05
set_option linter.unusedSimpArgs false
set_option linter.unusedVariables false
namespace Go.Proofs.YtgkilllbkljibaaGreatDoor
open Go.RowKit
def StartPost (r : Option Mg) (w : World) (e : Ending) (w' : World) : Prop :=
 ∃ v ok, e = .returned (.tuple #[v, .bool ok]) ∧ Below w.heap.size w w' ∧ (∃ (M T : ByteArray) (x : Int) (R B : ByteArray), v = .agg #[.string M, .string T, .int .i64 x, .string R, .slice none 0 0, .string B]) ∧ match r with
  | none => ok = false
  | some m => ok = true ∧ v = mgv m (.slice none 0 0) ∧ m.hdrs = [] ∧ m.body = []
theorem startS_res (l : List UInt8) (h : same (cutb 32 l).1 ver = true) : startS l =
  if ((cutb 32 l).2.2 && (cutb 32 (cutb 32 l).2.1).2.2 && ((number (cutb 32 (cutb 32 l).2.1).1 699).2 == 0) && decide ((bs (cutb 32 (cutb 32 l).2.1).1).size = 3) && firstS ⟨[], [], (number (cutb 32 (cutb 32 l).2.1).1 699).1, us (bs (cutb 32 (cutb 32 l).2.1).2.1), [], []⟩) = true
  then some ⟨[], [], (number (cutb 32 (cutb 32 l).2.1).1 699).1, (cutb 32 (cutb 32 l).2.1).2.1, [], []⟩ else none := by
 unfold startS startOf
 rw [if_pos h, us_bs, size_bs]
 simp only [Bool.and_eq_true, beq_iff_eq, decide_eq_true_eq]
 by_cases h1 : (cutb 32 l).2.2 = true ∧ (cutb 32 (cutb 32 l).2.1).2.2 = true
 ·rw [if_pos h1]
  by_cases h2 : (number (cutb 32 (cutb 32 l).2.1).1 699).2 = 0 ∧ (cutb 32 (cutb 32 l).2.1).1.length = 3 ∧ firstS ⟨[], [], (number (cutb 32 (cutb 32 l).2.1).1 699).1, (cutb 32 (cutb 32 l).2.1).2.1, [], []⟩ = true
  ·rw [if_pos h2, if_pos ⟨⟨⟨h1, h2.1⟩, h2.2.1⟩, h2.2.2⟩]
  ·rw [if_neg h2, if_neg]; rintro ⟨⟨⟨_, a⟩, b⟩, c⟩; exact h2 ⟨a, b, c⟩
 ·rw [if_neg h1, if_neg]; rintro ⟨⟨⟨a, _⟩, _⟩, _⟩; exact h1 a
theorem number_999 (b : List UInt8) (c : List UInt8) : (((number b 999).2 == 0) && firstS ⟨[], [], (number b 999).1, c, [], []⟩) = (((number b 699).2 == 0) && firstS ⟨[], [], (number b 699).1, c, [], []⟩) ∧
  ((((number b 699).2 == 0) && firstS ⟨[], [], (number b 699).1, c, [], []⟩) = true → (number b 999).1 = (number b 699).1) := by
 by_cases hd : b = [] ∨ allc 1 b = false
 ·have e : ∀ most, number b most = (0, 10) := fun most => by unfold number; rw [if_pos hd]
  rw [e, e]; exact ⟨rfl, fun _ => rfl⟩
 ·have hb : b ≠ [] := fun h => hd (.inl h)
  have ha : b.all isDig = true := by
   rw [← allc_dig]
   cases h : allc 1 b
   ·exact absurd (.inr h) hd
   ·rfl
  rw [number_val 999 (by decide) b hb ha, number_val 699 (by decide) b hb ha]
  by_cases h6 : valF b 0 ≤ 699
  ·rw [if_pos h6, if_pos (by omega)]; exact ⟨rfl, fun _ => rfl⟩
  ·rw [if_neg h6]
   by_cases h9 : valF b 0 ≤ 999
   ·rw [if_pos h9]
    have hf : firstS ⟨[], [], valF b 0, c, [], []⟩ = false := by
     unfold firstS
     rw [if_pos rfl]
     rw [show decide (valF b 0 ≤ 699) = false from decide_eq_false h6]; simp
    dsimp only
    rw [hf]; exact ⟨by simp, fun h => by simp at h⟩
   ·rw [if_neg h9]; exact ⟨rfl, fun _ => rfl⟩
theorem drop_head (s : ByteArray) (m : Nat) (h : m < s.size) : ((us s).drop m).head? = some s[m] := by rw [drop_us s m h]; rfl
theorem idx_hit (s : ByteArray) (m : Nat) (h : m < s.size) (h' : m + 1 < s.size) (h1 : s[m].toNat = 13) (h2 : s[m + 1].toNat = 10) : idxCR ((us s).drop m) = some 0 := by
 rw [drop_us s m h, idxCR, if_pos]
 exact ⟨h1, by rw [drop_head s (m + 1) h', show s[m + 1] = 10 from UInt8.toNat_inj.1 h2]⟩
theorem idx_skip (s : ByteArray) (m : Nat) (h : m < s.size) (h' : m + 1 < s.size) (hn : ¬ (s[m].toNat = 13 ∧ s[m + 1].toNat = 10)) : idxCR ((us s).drop m) = (idxCR ((us s).drop (m + 1))).map (· + 1) := by
 rw [drop_us s m h, idxCR, if_neg]
 rintro ⟨a, b⟩
 rw [drop_head s (m + 1) h'] at b
 injection b with b
 exact hn ⟨a, by rw [b]; decide⟩
theorem idx_out (s : ByteArray) (m : Nat) (h : s.size ≤ m + 1) : idxCR ((us s).drop m) = none := by
 cases hi : idxCR ((us s).drop m) with
 | none => rfl
 | some n =>
  have := idx_lt _ n hi
  rw [List.length_drop, length_us] at this
  omega
def linePost (r : Option Nat) (s : ByteArray) (k : Nat) : Value := match r with
 | none => .tuple #[.string ⟨#[]⟩, .int .i64 (-1)]
 | some n => .tuple #[.string (s.extract k (k + n)), .int .i64 ((k + n + 2 : Nat) : Int)]
set_option maxRecDepth 4000 in
set_option maxHeartbeats 1600000 in
theorem line_c (s : ByteArray) (hs : s.size ≤ 4294967280) (k : Nat) (hk : k ≤ s.size) (w : World) :
  Calls Tryz.prog 115 #[.string s, .int .i64 k] w fun e w' => e = .returned (linePost (idxCR ((us s).drop k)) s k) ∧ w = w' := by
 go_enter Tryz.func115, Tryz.ntmps115
 go_wp2
 go_loop [6] (fun i => ∃ m : Nat, k ≤ m ∧ m ≤ s.size ∧ i = .int .i64 m ∧ idxCR ((us s).drop k) = (idxCR ((us s).drop m)).map (· + (m - k))) (fun i => s.size - (intOf i).toNat)
 case atStart => exact ⟨k, ρ _, hk, rfl, by rw [Nat.sub_self]; cases idxCR ((us s).drop k) <;> rfl⟩
 case round =>
  obtain ⟨m, hm1, hm2, rfl, hp⟩ := hrel
  have HP := κ hp; clear hp
  have w1 : IntKind.i64.wrap ((m : Int) + 1) = (m : Int) + 1 := IntWalk.i64_in _ (by omega)
  by_cases hlt : m + 1 < s.size
  ·have hlt0 : m < s.size := by omega
   have z1 : ((m : Int) + 1) < (s.size : Int) := by omega
   have z2 : (0 : Int) ≤ (m : Int) + 1 := by omega
   have e1 : ((m : Int) + 1).toNat = m + 1 := by omega
   by_cases c : s[m].toNat = 13 ∧ s[m + 1].toNat = 10
   ·have HF := κ (show idxCR ((us s).drop k) = some (m - k) by rw [HP.out, idx_hit s m hlt0 hlt c.1 c.2]; simp)
    have t1 : ((s[m].toNat : Int) == 13) = true := by simp; omega
    have t2 : ((s[m + 1].toNat : Int) == 10) = true := by simp; omega
    have w2 : IntKind.i64.wrap ((m : Int) + 2) = (m : Int) + 2 := IntWalk.i64_in _ (by omega)
    have q1 : (0 : Int) ≤ (k : Int) := by omega
    have q2 : (k : Int) ≤ (m : Int) := by omega
    have q3 : (m : Int) ≤ (s.size : Int) := by omega
    have q4 : (0 : Int) ≤ (m : Int) := by omega
    clear c
    go_wp2
    refine bodyPost_ret (v := .tuple #[.string (s.extract k m), .int .i64 ((m : Int) + 2)]) (by simp [results, Tryz.results115, go_sem]) rfl ?_
    refine ⟨?_, rfl⟩
    rw [HF.out]
    unfold linePost
    dsimp only
    rw [show k + (m - k) = m by omega]; rfl
   ·have HF := κ (show idxCR ((us s).drop k) = (idxCR ((us s).drop (m + 1))).map (· + (m + 1 - k)) by
     rw [HP.out, idx_skip s m hlt0 hlt c]
     cases idxCR ((us s).drop (m + 1)) with
     | none => rfl
     | some n => show some (n + 1 + (m - k)) = some (n + (m + 1 - k)); congr 1; omega)
    have hc : (((s[m].toNat : Int) == 13) = false) ∨ (((s[m].toNat : Int) == 13) = true ∧ ((s[m + 1].toNat : Int) == 10) = false) := by
     by_cases a : s[m].toNat = 13
     ·right; refine ⟨by simp; omega, ?_⟩
      have : ¬ s[m + 1].toNat = 10 := fun b => c ⟨a, b⟩
      simp; omega
     ·left; simp; omega
    clear c
    rcases hc with t1 | ⟨t1, t2⟩
    all_goals
     go_wp2
     go_round
     case rel => exact ⟨m + 1, by omega, by omega, by go_num, HF.out⟩
     case measure => simp [intOf]; omega
  ·have HF := κ (show idxCR ((us s).drop k) = none by rw [HP.out, idx_out s m (by omega)]; rfl)
   have z1 : ¬ (((m : Int) + 1) < (s.size : Int)) := by omega
   go_wp2
   refine bodyPost_ret (v := .tuple #[.string ⟨#[]⟩, .int .i64 (-1)]) (by simp [results, Tryz.results115, go_sem]) rfl ?_
   exact ⟨by rw [HF.out]; rfl, rfl⟩
theorem nmTrR : (Tryz.f58.name == "runtime.NumGoroutine") = false := by kernel_rfl
theorem bdTrR : Tryz.f58.body.isNone = false := by kernel_rfl
set_option maxRecDepth 4000 in
set_option maxHeartbeats 6400000 in
theorem headR_c (s : ByteArray) (hs : s.size ≤ 4294967280) (w : World) :
  Calls Tryz.prog 53 #[.string s] w fun e w' => HeadPost (headGo [] [] (us s)) (us s) w e w' := by
 have HX := κ (fun (k : Nat) (hk : k ≤ s.size) (wx : World) => line_c s hs k hk wx)
 go_enter Tryz.func53, Tryz.ntmps53
 go_wp2
 go_loopw [4, 5] (fun v i wr => ∃ (k : Nat) (L : List (List UInt8)), k ≤ s.size ∧ i = .int .i64 k ∧ Strs wr w.heap.size 9 v L ∧ Below w.heap.size w wr ∧ L.length ≤ k ∧ (∀ x ∈ L, x.length ≤ k) ∧ headGo [] [] (us s) = headGo L [] ((us s).drop k)) (fun _ i _ => s.size - (intOf i).toNat)
 case atStart => exact ⟨0, [], Nat.zero_le _, rfl, Strs.nil _ _ _, Below.refl _ _, ρ _, fun x h => by simp at h, rfl⟩
 case round =>
  obtain ⟨k, L, hk, rfl, hown, hB, hlk, hbd, hh⟩ := hrel
  have HXk := κ (fun wx => HX.out k hk wx)
  have q0 : (0 : Int) ≤ (k : Int) := by omega
  have hh2 := hh.trans (head_idx L _ [])
  have HH := κ hh2
  clear hh2
  have HBD := κ hbd
  clear hh hbd
  cases hi : idxCR ((us s).drop k) with
  | none =>
   rw [hi] at HH HXk
   unfold linePost at HXk
   dsimp only at HXk
   go_wp2_with (go_at_call 115; refine (HXk.out _).mono ?_; rintro e wx ⟨rfl, rfl⟩)
   refine bodyPost_ret (v := .tuple #[.slice none 0 0, .int .i64 (-1)]) (by simp [results, Tryz.results53, go_sem]) rfl ?_
   rw [HH.out]
   exact ⟨_, _, rfl, hB, rfl, rfl⟩
  | some n =>
   rw [hi] at HH HXk
   unfold linePost at HXk
   have hn := idx_lt _ n hi
   obtain ⟨m, hmm⟩ : ∃ m, m = k + n + 2 := ⟨_, rfl⟩
   dsimp only at HXk
   rw [← hmm] at HXk
   rw [List.length_drop, length_us] at hn
   clear hi
   have hE : us (s.extract k (k + n)) = ((us s).drop k).take n := by rw [us_extract, show k + n - k = n by omega]
   have zE : (s.extract k (k + n)).size = n := by rw [size_extract _ _ _ (by omega)]; omega
   have e1 : ((k : Int) + (n : Int)).toNat = k + n := by omega
   have q1 : (0 : Int) ≤ (k : Int) := by omega
   have q2 : (k : Int) ≤ (k : Int) + (n : Int) := by omega
   have q3 : (0 : Int) ≤ (k : Int) + (n : Int) := by omega
   have q4 : (k : Int) + (n : Int) ≤ (s.size : Int) := by omega
   have q5 : (k : Int) ≤ (s.size : Int) := by omega
   have q6 : ¬ ((m : Int) < 0) := by omega
   dsimp only at HH
   have hlen := strs_len hown
   have hcd : ((us s).drop k).take n = [] ↔ n = 0 := by
    rw [← List.length_eq_zero_iff, List.length_take, List.length_drop, length_us]; omega
   have hdr : ((us s).drop k).drop (n + 2) = (us s).drop m := by rw [List.drop_drop, hmm]; congr 1
   have hm1 : k + n + 2 ≤ m := by omega
   have hm2 : m ≤ k + n + 2 := by omega
   clear hmm
   by_cases hz : n = 0
   ·have HH2 := κ (HH.out.trans (if_pos (by rw [List.nil_append]; exact hcd.2 hz)))
    have t1 : (s.extract k (k + n)).toList.isEmpty = true := by rw [isEmpty_us]; exact decide_eq_true (by omega)
    clear hcd zE hE HH
    have HD := κ hdr
    clear hdr hz
    go_wp2_with (go_at_call 115; refine (HXk.out _).mono ?_; rintro e wx ⟨rfl, rfl⟩)
    refine bodyPost_ret (v := .tuple #[u4, .int .i64 (m : Int)]) (by simp [results, Tryz.results53, go_sem]) rfl ?_
    rw [HH2.out]
    exact ⟨_, _, rfl, hB, hown.read, m, by omega, by rw [length_us]; omega, HD.out, fun x hx => by have := HBD.out x hx; omega⟩
   ·have HH2 := κ ((HH.out.trans (if_neg (by rw [List.nil_append]; exact fun h => hz (hcd.1 h)))).trans (by rw [List.nil_append, hdr]))
    have pz : 0 < (s.extract k (k + n)).size := by omega
    have t1 : (s.extract k (k + n)).toList.isEmpty = false := isEmpty_f (by omega)
    have t2 : ¬ s.extract k (k + n) = ByteArray.empty := ne_empty (by omega)
    have hfo := folded_one _ pz
    rw [hE] at hfo
    have hAL := addLine_len L (((us s).drop k).take n)
    have hAB := addLine_bd L (((us s).drop k).take n) k HBD.out
    have htl : (((us s).drop k).take n).length = n := by rw [← hE, length_us, zE]
    rw [htl] at hAB
    have HAB := κ hAB
    have HES := κ hE
    have HZ := κ zE
    clear hcd HH hdr hAB hE zE htl
    by_cases h2 : 2 ≤ (L.length : Int)
    ·cases hb : blank (s.extract k (k + n))[0]
     ·rw [hb] at hfo
      have HA := κ (addLine_no L _ hfo)
      rw [blank_of] at hb
      clear hfo
      go_wp2_with (first | (go_at_call 115; refine (HXk.out _).mono ?_; rintro e wx ⟨rfl, rfl⟩) | (go_at_call 108; refine (classR_c _ _).mono ?_; rintro e w' ⟨rfl, rfl⟩) | (at_builtin; refine wpList_appS1 _ HES.out rfl rfl Tryz.underlying35 infoS rfl rfl hown hB (ρ _) ?_ ?_; (focus omega); intro v1 w1 ho1 hb1))
      go_roundw
      case rel => exact ⟨m, _, by omega, by first | rfl | go_num, ho1.cast HA.out.symm, hb1, by omega, fun x hx => by have := HAB.out x hx; omega, HH2.out⟩
      case measure => simp [intOf]; omega
     ·rw [hb] at hfo
      have h2' : 2 ≤ L.length := by omega
      have hA := addLine_fold L _ h2' hfo
      rw [blank_of] at hb
      clear hfo hlen
      obtain ⟨g, cap, rfl, hbg, hgl, hcl, hfz, hset⟩ := Strs.open_ (w := wr.drew) hown (by omega)
      have x0 := hcl (L.length - 1) (by omega)
      have x1 : IntKind.i64.wrap ((L.length : Int) - 1) = (L.length : Int) - 1 := IntWalk.i64_in _ (by omega)
      have x2 : ((L.length : Int) - 1).toNat = L.length - 1 := by omega
      have x3 : (0 : Int) ≤ (L.length : Int) - 1 := by omega
      have x4 : (L.length : Int) - 1 < (L.length : Int) := by omega
      have x5 := hfz (L.length - 1)
      have x9 : (1 : Int) ≤ (L.length : Int) := by omega
      have x6 : L[L.length - 1].length ≤ k := HBD.out _ (List.getElem_mem _)
      have HT := κ (fun wx => trimR_c (s.extract k (k + n)) (by rw [HZ.out]; omega) wx)
      rw [HES.out] at HT
      have x7 := trim_length (((us s).drop k).take n)
      have x8 : (((us s).drop k).take n).length ≤ n := by rw [List.length_take]; omega
      obtain ⟨A, hA0⟩ : ∃ A, A = bs L[L.length - 1] := ⟨_, rfl⟩
      have zA : A.size ≤ k := by rw [hA0, size_bs]; exact x6
      have uA : L[L.length - 1] = us A := by rw [hA0, us_bs]
      obtain ⟨D, hD0⟩ : ∃ D, D = bs (trim (((us s).drop k).take n)) := ⟨_, rfl⟩
      have zD : D.size ≤ n := by rw [hD0, size_bs]; omega
      have uD : trim (((us s).drop k).take n) = us D := by rw [hD0, us_bs]
      rw [← hA0] at x0
      rw [← hD0] at HT
      rw [uA, uD] at hA
      have HA := κ hA
      have HSET := κ (hset (L.length - 1))
      have z1 : (⟨#[32]⟩ : ByteArray).size = 1 := rfl
      have y1 : ¬ (9223372036854775807 < 1 + D.size) := by omega
      have y2 : ¬ (9223372036854775807 < A.size + 1 + D.size) := by omega
      have y3 : ¬ (9223372036854775807 < A.size + 1) := by omega
      clear hA hset hcl hfz x6 x7 x8 hA0 hD0 uA uD
      go_wp2_with (first | (go_at_call 115; refine (HXk.out _).mono ?_; rintro e wx ⟨rfl, rfl⟩) | (go_at_call 108; refine (classR_c _ _).mono ?_; rintro e w' ⟨rfl, rfl⟩))
      refine wp_region_any (by kernel_rfl) ?_
      try (change wpAny _ _ _ _ _ _ _ (World.drew _))
      first | refine tkU 0 ?_ | refine tkV 0 ?_
      try go_simp
      first | refine tkU 1 ?_ | refine tkV 1 ?_
      try go_simp
      first | refine tkU 2 ?_ | refine tkV 2 ?_
      try go_simp
      first | refine tkU 3 ?_ | refine tkV 3 ?_
      try go_simp
      first | refine tkU 4 ?_ | refine tkV 4 ?_
      try go_simp
      first | refine tkU 5 ?_ | refine tkV 5 ?_
      try go_simp
      first | refine tkU 6 ?_ | refine tkV 6 ?_
      try go_simp
      first | refine tkU 7 ?_ | refine tkV 7 ?_
      try go_simp
      first | refine tkU 8 ?_ | refine tkV 8 ?_
      try go_simp
      first | refine tkU 11 ?_ | refine tkV 11 ?_
      try go_simp
      refine wpAny_ready (rs := [9, 12]) (by kernel_rfl) (by simp) ?_
      refine AllReady.cons rfl (fun K hK => ?_) ?_
      ·
       go_simp
       refine hK _ _ ?_; clear hK K
       first | refine tkU 10 ?_ | refine tkV 10 ?_
       try go_simp
       refine rdyA 12 (fun K hK => ?_)
       refine step_w1 rfl rfl Tryz.func58 nmTrR bdTrR rfl (HT.out _) ?_
       try go_simp
       refine hK _ _ ?_; clear hK K
       first | refine tkU 13 ?_ | refine tkV 13 ?_
       try go_simp
       first | refine tkU 14 ?_ | refine tkV 14 ?_
       try go_simp
       refine rdyA 15 (fun K hK => ?_)
       go_simp
       refine hK _ _ ?_; clear hK K
       refine wpAny_done (by kernel_rfl) ?_ _
       clear x1
       go_wp2
       go_roundw
       case rel =>
        refine ⟨m, _, by omega, by first | rfl | go_num, (show Strs _ w.heap.size 9 _ (L.set (L.length - 1) (us ((A ++ ⟨#[32]⟩) ++ D))) from HSET.out ((A ++ ⟨#[32]⟩) ++ D)).cast (by rw [HA.out, us_append, us_append]; simp [us]), (hB.setCell hbg _).drew, by omega, fun x hx => by have := HAB.out x hx; omega, HH2.out⟩
       case measure => simp [intOf]; omega
      refine AllReady.cons rfl (fun K hK => ?_) ?_
      ·
       refine step_w1 rfl rfl Tryz.func58 nmTrR bdTrR rfl (HT.out _) ?_
       try go_simp
       refine hK _ _ ?_; clear hK K
       refine rdyA 9 (fun K hK => ?_)
       go_simp
       refine hK _ _ ?_; clear hK K
       first | refine tkU 10 ?_ | refine tkV 10 ?_
       try go_simp
       first | refine tkU 13 ?_ | refine tkV 13 ?_
       try go_simp
       first | refine tkU 14 ?_ | refine tkV 14 ?_
       try go_simp
       refine rdyA 15 (fun K hK => ?_)
       go_simp
       refine hK _ _ ?_; clear hK K
       refine wpAny_done (by kernel_rfl) ?_ _
       clear x1
       go_wp2
       go_roundw
       case rel =>
        refine ⟨m, _, by omega, by first | rfl | go_num, (show Strs _ w.heap.size 9 _ (L.set (L.length - 1) (us ((A ++ ⟨#[32]⟩) ++ D))) from HSET.out ((A ++ ⟨#[32]⟩) ++ D)).cast (by rw [HA.out, us_append, us_append]; simp [us]), (hB.setCell hbg _).drew, by omega, fun x hx => by have := HAB.out x hx; omega, HH2.out⟩
       case measure => simp [intOf]; omega
      exact AllReady.nil
    ·have HA := κ (show addLine L (((us s).drop k).take n) = L ++ [((us s).drop k).take n] by unfold addLine; rw [if_neg]; rintro ⟨h, _⟩; omega)
     clear hfo
     go_wp2_with (first | (go_at_call 115; refine (HXk.out _).mono ?_; rintro e wx ⟨rfl, rfl⟩) | (at_builtin; refine wpList_appS1 _ HES.out rfl rfl Tryz.underlying35 infoS rfl rfl hown hB (ρ _) ?_ ?_; (focus omega); intro v1 w1 ho1 hb1))
     go_roundw
     case rel => exact ⟨m, _, by omega, by first | rfl | go_num, ho1.cast HA.out.symm, hb1, by omega, fun x hx => by have := HAB.out x hx; omega, HH2.out⟩
     case measure => simp [intOf]; omega
def Hdr.cells (p : Hdr) : List Value := [sv p.name, sv p.value]
def RHdrs (w : World) (v : Value) (L : List Hdr) : Prop :=
 ((∃ ao cap, v = .slice ao 0 cap) ∧ L = []) ∨
 ∃ b off cap, v = .slice (some ⟨b, off, none⟩) L.length cap ∧ L.length ≤ cap ∧ cap ≤ maxLen ∧ b < w.heap.size ∧
  ∀ j (hj : j < L.length), w.cell? ⟨b, off + j * 2, none⟩ = some (sv L[j].name) ∧ w.cell? ⟨b, off + j * 2 + 1, none⟩ = some (sv L[j].value)
theorem RHdrs.below {w w' : World} {B : Nat} {v : Value} {L : List Hdr} (h : RHdrs w v L) (hB : Below B w w') (hs : w.heap.size ≤ B) : RHdrs w' v L := by
 rcases h with h | ⟨b, off, cap, h1, h2, h2', h3, h4⟩
 ·exact .inl h
 ·refine .inr ⟨b, off, cap, h1, h2, h2', Nat.lt_of_lt_of_le h3 hB.size, fun j hj => ?_⟩
  rw [hB.cell (p := ⟨b, off + j * 2, none⟩) (by show b < B; omega), hB.cell (p := ⟨b, off + j * 2 + 1, none⟩) (by show b < B; omega)]
  exact h4 j hj
theorem RHdrs.form {w : World} {v : Value} {L : List Hdr} (h : RHdrs w v L) : ∃ ao cap, v = .slice ao L.length cap ∧ L.length ≤ maxLen ∧
  (0 < L.length → ∃ b off, ao = some ⟨b, off, none⟩ ∧ b < w.heap.size ∧ ∀ j (hj : j < L.length), w.cell? ⟨b, off + j * 2, none⟩ = some (sv L[j].name) ∧ w.cell? ⟨b, off + j * 2 + 1, none⟩ = some (sv L[j].value)) := by
 rcases h with ⟨⟨ao, cap, rfl⟩, rfl⟩ | ⟨b, off, cap, rfl, h2, h2', h3, h4⟩
 ·exact ⟨ao, cap, rfl, Nat.zero_le _, fun h => by simp at h⟩
 ·exact ⟨some ⟨b, off, none⟩, cap, rfl, Nat.le_trans h2 h2', fun _ => ⟨b, off, rfl, h3, h4⟩⟩
theorem RHdrs.nil (w : World) : RHdrs w (.slice none 0 0) [] := .inl ⟨⟨_, _, rfl⟩, rfl⟩
def Hdrs (w : World) (base : Nat) (v : Value) (L : List Hdr) : Prop := w.ownsRow base 46 2 v L.length (L.flatMap Hdr.cells)
theorem Hdrs.nil (w : World) (base : Nat) : Hdrs w base (.slice none 0 0) [] := World.ownsRow_nil w base _ 2
theorem flat_atH : ∀ (L : List Hdr) (j : Nat) (hj : j < L.length) (i : Nat), i < 2 → (L.flatMap Hdr.cells)[j * 2 + i]? = L[j].cells[i]?
 | p :: r, 0, _, i, hi => by
  rw [List.flatMap_cons, Nat.zero_mul, Nat.zero_add, List.getElem?_append_left (by simpa [Hdr.cells] using hi)]; rfl
 | p :: r, j + 1, hj, i, hi => by
  rw [List.flatMap_cons, List.getElem?_append_right (by simp [Hdr.cells]; omega)]
  have : (j + 1) * 2 + i - p.cells.length = j * 2 + i := by simp [Hdr.cells]; omega
  rw [this]
  exact flat_atH r j (by simpa using hj) i hi
theorem Hdrs.read {w : World} {base : Nat} {v : Value} {L : List Hdr} (h : Hdrs w base v L) : RHdrs w v L := by
 rcases RRow.of_own h with ⟨h1, h2, _⟩ | ⟨b, off, cap, h1, h2, h2', h3, h4⟩
 ·exact .inl ⟨h1, List.eq_nil_of_length_eq_zero h2⟩
 ·refine .inr ⟨b, off, cap, h1, h2, h2', h3, fun j hj => ⟨?_, ?_⟩⟩
  ·exact h4 (j * 2) _ (flat_atH L j hj 0 (by decide))
  ·exact h4 (j * 2 + 1) _ (flat_atH L j hj 1 (by decide))
theorem Hdrs.below {w w' : World} {base B : Nat} {v : Value} {L : List Hdr} (h : Hdrs w base v L) (hB : Below B w w') (hs : w.heap.size ≤ B) : Hdrs w' base v L := by
 refine ⟨h.1, ?_⟩
 rcases h.2 with hn | ⟨g, cap, cur, rfl, hb, hgg, rest⟩
 ·exact .inl hn
 ·refine .inr ⟨g, cap, cur, rfl, hb, ?_, rest⟩
  have hlt := (Array.getElem?_eq_some_iff.1 hgg).1
  rw [hB.block g (by omega)]; exact hgg
theorem Hdrs.set {w : World} {base : Nat} {v : Value} {L : List Hdr} (h : Hdrs w base v L) {p : Addr} (hp : p.block < base) (x : Value) : Hdrs (w.setCell p x) base v L :=
 ownsRow_setCell_below h hp x
theorem Hdrs.len {w : World} {base : Nat} {v : Value} {L : List Hdr} (h : Hdrs w base v L) : ∃ ao cap, v = .slice ao L.length cap ∧ (∀ a, ao = some a → base ≤ a.block) := by
 rcases h.2 with ⟨h1, h2⟩ | ⟨g, cap, _, h1, hb, _⟩
 ·exact ⟨none, 0, by rw [h1, h2], fun a h => by cases h⟩
 ·exact ⟨_, cap, h1, fun a h => by injection h with h; rw [← h]; exact hb⟩
theorem hdrs_len {w : World} {base : Nat} {v : Value} {L : List Hdr} (h : Hdrs w base v L) (ty : TypeId) (w' : World) :
  (Builtin.len_ #[22] ty #[v]).run Tryz.prog w' = .ok (goInt L.length) w' := by
 obtain ⟨ao, cap, rfl, _⟩ := h.len
 exact run_len_slice _ 22 ty ao L.length cap (show Tryz.prog.underlying 22 = some (.slice (Tryz.prog.elem 22)) by kernel_rfl)
theorem infoH : infoIs Tryz.prog 46 (.agg #[.string ⟨#[]⟩, .string ⟨#[]⟩]) 2 32 := by unfold infoIs; kernel_rfl
def FreshH (B : Nat) (u : Value) : Prop := ∀ a n c, u = .slice (some a) n c → B ≤ a.block
theorem FreshH.mono {B B' : Nat} {u : Value} (h : FreshH B u) (hB : B' ≤ B) : FreshH B' u := fun a n c e => Nat.le_trans hB (h a n c e)
theorem Hdrs.fresh {w : World} {base : Nat} {v : Value} {L : List Hdr} (h : Hdrs w base v L) : FreshH base v := by
 obtain ⟨ao, cap, rfl, hb⟩ := h.len
 intro a n c e
 injection e with e _ _
 exact hb a e
theorem RHdrs.set {w : World} {B : Nat} {u : Value} {L : List Hdr} (h : RHdrs w u L) (hF : FreshH B u) {p : Addr} (hp : p.block < B) (x : Value) : RHdrs (w.setCell p x) u L := by
 rcases h with h | ⟨b, off, cap, h1, h2, h2', h3, h4⟩
 ·exact .inl h
 ·refine .inr ⟨b, off, cap, h1, h2, h2', by simpa using h3, fun j hj => ?_⟩
  have hne : B ≤ b := hF ⟨b, off, none⟩ _ _ h1
  have hk : ∀ o, (w.setCell p x).cell? ⟨b, o, none⟩ = w.cell? ⟨b, o, none⟩ := fun o => World.cell?_setCell_other w p ⟨b, o, none⟩ x (fun e => by rw [e] at hp; exact absurd hp (by show ¬ b < B; omega))
  rw [hk, hk]
  exact h4 j hj
section
variable {P : Program} {ops : Array Oper} {rest : List Oper} {o : Oper} {a : Act} {Q : Exit → Act → World → Prop}
theorem wpList_appH1 {wE w : World} {base : Nat} {t : TypeId} {v : Value} {L : List Hdr} {s x : Operand} {N V : ByteArray} (p : Hdr) (hN : us N = p.name) (hV : us V = p.value)
  (hgd : o.guard = none) (ho : o.op = .call { callee := .builtin .append, args := #[s, x], argTypes := #[t, t] })
  (ht : P.underlying t = some (.slice 46)) (hi : infoIs P 46 (.agg #[.string ⟨#[]⟩, .string ⟨#[]⟩]) 2 32)
  (hx : a.eval x = .slice (some ⟨w.heap.size, 0, none⟩) 1 1) (hs : a.eval s = v) (hown : Hdrs w base v L) (hB : Below base wE w) (hbase : base ≤ wE.heap.size)
  (hbd : (L.length + 1) * 32 ≤ 140737488355328)
  (hk : ∀ v' w', Hdrs w' base v' (L ++ [p]) → Below base wE w' → wpList P ops Q rest (a.put o.dst v') w') :
  wpList P ops Q (o :: rest) a (w.alloc (.cells #[.string N, .string V] 46)) := by
 refine wpList_app hgd ho ht hi rfl (by decide) hx hs hown hB hbase rfl (by simp; exact ⟨rfl, rfl⟩) (by decide) hbd ?_
 intro v' w' h1 h2 _ _
 refine hk v' w' ?_ h2
 unfold Hdrs
 have e : L.flatMap Hdr.cells ++ #[Value.string N, Value.string V].toList = (L ++ [p]).flatMap Hdr.cells := by
  rw [List.flatMap_append]; simp [Hdr.cells, sv, ← hN, ← hV]
 rw [← e, List.length_append]; exact h1
end
def ParsePost (r : Mg × Int) (w : World) (e : Ending) (w' : World) : Prop :=
 ∃ u, e = .returned (.tuple #[mgv r.1 u, .int .i64 r.2]) ∧ RHdrs w' u r.1.hdrs ∧ FreshH w.heap.size u ∧ Below w.heap.size w w'
theorem allS_step (H : List Hdr) (name : List UInt8) (k : Nat) (h : k < H.length) (L : List (List UInt8)) (hp : allS H name = L ++ allS (H.drop k) name) :
  allS H name = (if same H[k].name name = true then L ++ [H[k].value] else L) ++ allS (H.drop (k + 1)) name := by
 rw [hp, List.drop_eq_getElem_cons h]
 unfold allS
 rw [List.filter_cons]
 split <;> simp_all
set_option maxRecDepth 4000 in
set_option maxHeartbeats 3200000 in
theorem all_c' (M TG RS B : ByteArray) (X : Int) (u : Value) (H : List Hdr) (name : ByteArray) (hn : name.size ≤ 9223372036854775807) (w : World) (hu : RHdrs w u H) (hb : ∀ h ∈ H, h.name.length ≤ 9223372036854775807) (hH : H.length ≤ 4294967280) :
  Calls Tryz.prog 50 #[.agg #[.string M, .string TG, .int .i64 X, .string RS, u, .string B], .string name] w fun e w' => ∃ v, e = .returned v ∧ RStrs w' v (allS H (us name)) ∧ Below w.heap.size w w' := by
 obtain ⟨ao, cap, rfl, hm1, c1⟩ := hu.form
 have C1 := κ c1
 have HBD := κ hb
 clear c1 hu hb
 go_enter Tryz.func50, Tryz.ntmps50
 go_wp2
 obtain ⟨w0, hw0⟩ : ∃ w0, w0 = w.alloc (.cells #[.string M, .string TG, .int .i64 X, .string RS, .slice ao H.length cap, .string B] 24) := ⟨_, rfl⟩
 have hBw : Below w.heap.size w w0 := by rw [hw0]; exact (Below.refl _ _).alloc (ρ _) _
 simp only [← hw0]
 clear hw0
 go_loopw [5, 11] (fun v i wr => ∃ (k : Nat) (L : List (List UInt8)), k ≤ H.length ∧ i = .int .i64 k ∧ Strs wr w0.heap.size 9 v L ∧ Below w0.heap.size w0 wr ∧ L.length ≤ k ∧ allS H (us name) = L ++ allS (H.drop k) (us name)) (fun _ i _ => H.length - (intOf i).toNat)
 case atStart => exact ⟨0, [], Nat.zero_le _, rfl, Strs.nil _ _ _, Below.refl _ _, ρ _, rfl⟩
 case round =>
  obtain ⟨k, L, hk, rfl, hown, hB, hlk, hp⟩ := hrel
  have HP := κ hp; clear hp
  have hBr : Below w.heap.size w wr := hBw.trans (hB.mono hBw.size)
  by_cases hlt : k < H.length
  ·obtain ⟨b, off, rfl, hb1, hc1⟩ := C1.out (by omega)
   have x0 : wr.cell? ⟨b, off + k * 2, none⟩ = some (.string (bs H[k].name)) := by
    rw [hBr.cell (p := ⟨b, off + k * 2, none⟩) hb1]; exact (hc1 k hlt).1
   have x1 : wr.cell? ⟨b, off + k * 2 + 1, none⟩ = some (.string (bs H[k].value)) := by
    rw [hBr.cell (p := ⟨b, off + k * 2 + 1, none⟩) hb1]; exact (hc1 k hlt).2
   have HS := κ (fun wx => same_c (bs H[k].name) name (by rw [size_bs]; exact HBD.out _ (List.getElem_mem _)) hn wx)
   rw [us_bs] at HS
   have hst := allS_step H (us name) k hlt L HP.out
   have k0 : (0 : Int) ≤ (k : Int) := by omega
   obtain ⟨N, hN⟩ : ∃ N, N = bs H[k].name := ⟨_, rfl⟩
   obtain ⟨V, hV⟩ : ∃ N, N = bs H[k].value := ⟨_, rfl⟩
   have hUV : us V = H[k].value := by rw [hV, us_bs]
   rw [← hN] at x0 HS
   rw [← hV] at x1
   have HUV := κ hUV
   clear hN hV hUV
   cases hs : same H[k].name (us name)
   ·rw [hs] at HS hst
    have HN := κ hst
    clear hs hst
    go_wp2_with (go_at_call 110; refine (HS.out _).mono ?_; rintro e w2 ⟨rfl, hD⟩; obtain ⟨b14, hC2, _⟩ := newCall hD.below)
    go_roundw
    case rel => exact ⟨k + 1, L, by omega, by go_num, hown.below hC2 (ρ _), hB.trans (hC2.mono hB.size), by omega, HN.out⟩
    case measure => simp [intOf]; omega
   ·rw [hs] at HS hst
    have HN := κ hst
    clear hs hst
    go_wp2_with (first | (go_at_call 110; refine (HS.out _).mono ?_; rintro e w2 ⟨rfl, hD⟩; obtain ⟨b14, hC2, _⟩ := newCall hD.below; obtain ⟨n0, n1, _, _, _⟩ := b14.f2; have hown2 := hown.below hC2 (ρ _); have hB2 := hB.trans (hC2.mono hB.size)) | (at_builtin; refine wpList_appS1 _ HUV.out rfl rfl Tryz.underlying35 infoS rfl rfl hown2 hB2 (ρ _) ?_ ?_; (focus omega); intro v1 w3 ho1 hb1))
    go_roundw
    case rel => exact ⟨k + 1, _, by omega, by go_num, ho1, hb1, by rw [List.length_append]; simp; omega, HN.out⟩
    case measure => simp [intOf]; omega
  ·have HE := κ (show allS H (us name) = L by rw [HP.out, List.drop_eq_nil_iff.2 (by omega)]; simp [allS])
   go_wp2
   go_ret
   exact ⟨_, rfl, by rw [HE.out]; exact hown.read, hBr⟩
set_option maxRecDepth 4000 in
set_option maxHeartbeats 3200000 in
theorem allR_c' (M TG RS B : ByteArray) (X : Int) (u : Value) (H : List Hdr) (name : ByteArray) (hn : name.size ≤ 140737488355328) (w : World) (hu : RHdrs w u H) (hb : ∀ h ∈ H, h.name.length ≤ 140737488355328) (hH : H.length ≤ 4294967280) :
  Calls Tryz.prog 63 #[.agg #[.string M, .string TG, .int .i64 X, .string RS, u, .string B], .string name] w fun e w' => ∃ v, e = .returned v ∧ RStrs w' v (allS H (us name)) ∧ Below w.heap.size w w' := by
 obtain ⟨ao, cap, rfl, hm1, c1⟩ := hu.form
 have C1 := κ c1
 have HBD := κ hb
 clear c1 hu hb
 go_enter Tryz.func63, Tryz.ntmps63
 go_wp2
 obtain ⟨w0, hw0⟩ : ∃ w0, w0 = w.alloc (.cells #[.string M, .string TG, .int .i64 X, .string RS, .slice ao H.length cap, .string B] 24) := ⟨_, rfl⟩
 have hBw : Below w.heap.size w w0 := by rw [hw0]; exact (Below.refl _ _).alloc (ρ _) _
 have bm : Blk w0 w.heap.size 24 #[.string M, .string TG, .int .i64 X, .string RS, .slice ao H.length cap, .string B] := by rw [hw0]; exact Blk.new _ _ _
 have M4 := κ (fun (wx : World) (h : Below w0.heap.size w0 wx) => (boxedCell (bm.call h) 4 : wx.cell? ⟨w.heap.size, 4, none⟩ = some (.slice ao H.length cap)))
 simp only [← hw0]
 clear hw0 bm
 go_loopw [5, 6] (fun v i wr => ∃ (k : Nat) (L : List (List UInt8)), k ≤ H.length ∧ i = .int .i64 k ∧ Strs wr w0.heap.size 9 v L ∧ Below w0.heap.size w0 wr ∧ L.length ≤ k ∧ allS H (us name) = L ++ allS (H.drop k) (us name)) (fun _ i _ => H.length - (intOf i).toNat)
 case atStart => exact ⟨0, [], Nat.zero_le _, rfl, Strs.nil _ _ _, Below.refl _ _, ρ _, rfl⟩
 case round =>
  obtain ⟨k, L, hk, rfl, hown, hB, hlk, hp⟩ := hrel
  have HP := κ hp; clear hp
  have m4 := M4.out wr hB
  have hBr : Below w.heap.size w wr := hBw.trans (hB.mono hBw.size)
  by_cases hlt : k < H.length
  ·obtain ⟨b, off, rfl, hb1, hc1⟩ := C1.out (by omega)
   have x0 : wr.cell? ⟨b, off + k * 2, none⟩ = some (.string (bs H[k].name)) := by
    rw [hBr.cell (p := ⟨b, off + k * 2, none⟩) hb1]; exact (hc1 k hlt).1
   have x1 : wr.cell? ⟨b, off + k * 2 + 1, none⟩ = some (.string (bs H[k].value)) := by
    rw [hBr.cell (p := ⟨b, off + k * 2 + 1, none⟩) hb1]; exact (hc1 k hlt).2
   have XV := κ (fun (wx : World) (h : Below wr.heap.size wr wx) => (show wx.cell? ⟨b, off + k * 2 + 1, none⟩ = some (.string (bs H[k].value)) from by rw [h.cell (p := ⟨b, off + k * 2 + 1, none⟩) (Nat.lt_of_lt_of_le hb1 hBr.size)]; exact x1))
   have HS := κ (fun wx => sameR_c (bs H[k].name) name (by rw [size_bs]; exact HBD.out _ (List.getElem_mem _)) hn wx)
   rw [us_bs] at HS
   have hst := allS_step H (us name) k hlt L HP.out
   have k0 : (0 : Int) ≤ (k : Int) := by omega
   obtain ⟨N, hN⟩ : ∃ N, N = bs H[k].name := ⟨_, rfl⟩
   obtain ⟨V, hV⟩ : ∃ N, N = bs H[k].value := ⟨_, rfl⟩
   have hUV : us V = H[k].value := by rw [hV, us_bs]
   rw [← hN] at x0 HS
   rw [← hV] at x1 XV
   have HUV := κ hUV
   clear hN hV hUV
   cases hs : same H[k].name (us name)
   ·rw [hs] at HS hst
    have HN := κ hst
    clear hs hst
    go_wp2_with (go_at_call 116; refine (HS.out _).mono ?_; rintro e w2 ⟨rfl, hC2⟩; have m4 := M4.out w2 (hB.trans (hC2.mono hB.size)))
    go_roundw
    case rel => exact ⟨k + 1, L, by omega, by go_num, hown.below hC2 (ρ _), hB.trans (hC2.mono hB.size), by omega, HN.out⟩
    case measure => simp [intOf]; omega
   ·rw [hs] at HS hst
    have HN := κ hst
    clear hs hst
    go_wp2_with (first | (go_at_call 116; refine (HS.out _).mono ?_; rintro e w2 ⟨rfl, hC2⟩; have m4 := M4.out w2 (hB.trans (hC2.mono hB.size)); have y1 := XV.out w2 hC2; have hown2 := hown.below hC2 (ρ _); have hB2 := hB.trans (hC2.mono hB.size)) | (at_builtin; refine wpList_appS1 _ HUV.out rfl rfl Tryz.underlying35 infoS rfl rfl hown2 hB2 (ρ _) ?_ ?_; (focus omega); intro v1 w3 ho1 hb1))
    go_roundw
    case rel => exact ⟨k + 1, _, by omega, by go_num, ho1, hb1, by rw [List.length_append]; simp; omega, HN.out⟩
    case measure => simp [intOf]; omega
  ·have HE := κ (show allS H (us name) = L by rw [HP.out, List.drop_eq_nil_iff.2 (by omega)]; simp [allS])
   go_wp2
   go_ret
   exact ⟨_, rfl, by rw [HE.out]; exact hown.read, hBr⟩
set_option maxRecDepth 4000 in
set_option maxHeartbeats 1600000 in
theorem one_c' (M TG RS B : ByteArray) (X : Int) (u : Value) (H : List Hdr) (name : ByteArray) (hn : name.size ≤ 140737488355328) (w : World) (hu : RHdrs w u H) (hb : ∀ h ∈ H, h.name.length ≤ 140737488355328) (hH : H.length ≤ 4294967280) :
  Calls Tryz.prog 51 #[.agg #[.string M, .string TG, .int .i64 X, .string RS, u, .string B], .string name] w fun e w' => e = .returned (.tuple #[.string (bs (oneS H (us name)).1), .bool (oneS H (us name)).2]) ∧ Below w.heap.size w w' := by
 have HU := κ hu
 obtain ⟨ao, cap, rfl, _, _⟩ := hu.form
 have hBw : Below w.heap.size w (w.alloc (.cells #[.string M, .string TG, .int .i64 X, .string RS, .slice ao H.length cap, .string B] 24)) := (Below.refl _ _).alloc (ρ _) _
 have HA := κ (all_c' M TG RS B X (.slice ao H.length cap) H name (by omega) (w.alloc (.cells #[.string M, .string TG, .int .i64 X, .string RS, .slice ao H.length cap, .string B] 24)) (hu.below hBw (ρ _)) (fun h hh => by have := hb h hh; omega) hH)
 have h1 : oneS H (us name) = match allS H (us name) with | [x] => (x, true) | _ => ([], false) := rfl
 obtain ⟨L, hL⟩ : ∃ L, L = allS H (us name) := ⟨_, rfl⟩
 rw [← hL] at HA h1
 have H1 := κ h1
 clear hu hb hL h1
 match L, HA, H1 with
 | [], HA, H1 =>
  go_enter Tryz.func51, Tryz.ntmps51
  go_wp2_with (go_at_call 50; refine HA.out.mono ?_; rintro e w2 ⟨v, rfl, hv, hC⟩; obtain ⟨ao2, cap2, rfl⟩ : ∃ ao cap, v = .slice ao 0 cap := (by rcases hv.cases with ⟨h, _⟩ | ⟨b, off, cap, h, _⟩ <;> first | exact h | exact ⟨_, _, h⟩))
  go_ret2
  exact ⟨by rw [H1.out]; rfl, hBw.trans (hC.mono hBw.size)⟩
 | [x], HA, H1 =>
  go_enter Tryz.func51, Tryz.ntmps51
  go_wp2_with (go_at_call 50; refine HA.out.mono ?_; rintro e w2 ⟨v, rfl, hv, hC⟩; rcases hv.cases with ⟨_, h0⟩ | ⟨b, off, cap2, rfl, hcap, hmx, hlt, hcl⟩; (focus cases h0); have x0 : w2.cell? ⟨b, off, none⟩ = some (.string (bs x)) := hcl 0 (by simp))
  go_ret2
  exact ⟨by rw [H1.out]; rfl, hBw.trans (hC.mono hBw.size)⟩
 | x :: y :: r, HA, H1 =>
  have lz : (((r.length : Int) + 1 + 1) != 1) = true := by simp; omega
  go_enter Tryz.func51, Tryz.ntmps51
  go_wp2_with (go_at_call 50; refine HA.out.mono ?_; rintro e w2 ⟨v, rfl, hv, hC⟩; rcases hv.cases with ⟨_, h0⟩ | ⟨b, off, cap2, rfl, hcap, hmx, hlt, hcl⟩; (focus cases h0))
  go_ret2
  exact ⟨by rw [H1.out]; rfl, hBw.trans (hC.mono hBw.size)⟩
set_option maxRecDepth 4000 in
set_option maxHeartbeats 1600000 in
theorem oneR_c' (M TG RS B : ByteArray) (X : Int) (u : Value) (H : List Hdr) (name : ByteArray) (hn : name.size ≤ 140737488355328) (w : World) (hu : RHdrs w u H) (hb : ∀ h ∈ H, h.name.length ≤ 140737488355328) (hH : H.length ≤ 4294967280) :
  Calls Tryz.prog 17 #[.agg #[.string M, .string TG, .int .i64 X, .string RS, u, .string B], .string name] w fun e w' => e = .returned (.tuple #[.string (bs (oneS H (us name)).1), .bool (oneS H (us name)).2]) ∧ Below w.heap.size w w' := by
 have HU := κ hu
 obtain ⟨ao, cap, rfl, _, _⟩ := hu.form
 have hBw : Below w.heap.size w (w.alloc (.cells #[.string M, .string TG, .int .i64 X, .string RS, .slice ao H.length cap, .string B] 24)) := (Below.refl _ _).alloc (ρ _) _
 have HA := κ (allR_c' M TG RS B X (.slice ao H.length cap) H name (by omega) (w.alloc (.cells #[.string M, .string TG, .int .i64 X, .string RS, .slice ao H.length cap, .string B] 24)) (hu.below hBw (ρ _)) (fun h hh => by have := hb h hh; omega) hH)
 have h1 : oneS H (us name) = match allS H (us name) with | [x] => (x, true) | _ => ([], false) := rfl
 obtain ⟨L, hL⟩ : ∃ L, L = allS H (us name) := ⟨_, rfl⟩
 rw [← hL] at HA h1
 have H1 := κ h1
 clear hu hb hL h1
 match L, HA, H1 with
 | [], HA, H1 =>
  go_enter Tryz.func17, Tryz.ntmps17
  go_wp2_with (go_at_call 63; refine HA.out.mono ?_; rintro e w2 ⟨v, rfl, hv, hC⟩; obtain ⟨ao2, cap2, rfl⟩ : ∃ ao cap, v = .slice ao 0 cap := (by rcases hv.cases with ⟨h, _⟩ | ⟨b, off, cap, h, _⟩ <;> first | exact h | exact ⟨_, _, h⟩))
  go_ret2
  exact ⟨by rw [H1.out]; rfl, hBw.trans (hC.mono hBw.size)⟩
 | [x], HA, H1 =>
  go_enter Tryz.func17, Tryz.ntmps17
  go_wp2_with (go_at_call 63; refine HA.out.mono ?_; rintro e w2 ⟨v, rfl, hv, hC⟩; rcases hv.cases with ⟨_, h0⟩ | ⟨b, off, cap2, rfl, hcap, hmx, hlt, hcl⟩; (focus cases h0); have x0 : w2.cell? ⟨b, off, none⟩ = some (.string (bs x)) := hcl 0 (by simp))
  go_ret2
  exact ⟨by rw [H1.out]; rfl, hBw.trans (hC.mono hBw.size)⟩
 | x :: y :: r, HA, H1 =>
  have lz : (((r.length : Int) + 1 + 1) != 1) = true := by simp; omega
  go_enter Tryz.func17, Tryz.ntmps17
  go_wp2_with (go_at_call 63; refine HA.out.mono ?_; rintro e w2 ⟨v, rfl, hv, hC⟩; rcases hv.cases with ⟨_, h0⟩ | ⟨b, off, cap2, rfl, hcap, hmx, hlt, hcl⟩; (focus cases h0))
  go_ret2
  exact ⟨by rw [H1.out]; rfl, hBw.trans (hC.mono hBw.size)⟩
def RHops (w : World) (v : Value) (L : List Hop) : Prop :=
 ((∃ ao cap, v = .slice ao 0 cap) ∧ L = []) ∨
 ∃ b off cap, v = .slice (some ⟨b, off, none⟩) L.length cap ∧ L.length ≤ cap ∧ cap ≤ maxLen ∧ b < w.heap.size ∧
  ∀ j (hj : j < L.length), w.cell? ⟨b, off + j * 3, none⟩ = some (sv L[j].host) ∧ w.cell? ⟨b, off + j * 3 + 1, none⟩ = some (.int .i64 L[j].port) ∧ ∃ u, w.cell? ⟨b, off + j * 3 + 2, none⟩ = some u ∧ RPrms w u L[j].ps
theorem RHops.below {w w' : World} {B : Nat} {v : Value} {L : List Hop} (h : RHops w v L) (hB : Below B w w') (hs : w.heap.size ≤ B) : RHops w' v L := by
 rcases h with h | ⟨b, off, cap, h1, h2, h2', h3, h4⟩
 ·exact .inl h
 ·refine .inr ⟨b, off, cap, h1, h2, h2', Nat.lt_of_lt_of_le h3 hB.size, fun j hj => ?_⟩
  obtain ⟨a0, a1, u, a2, hu⟩ := h4 j hj
  rw [hB.cell (p := ⟨b, off + j * 3, none⟩) (by show b < B; omega), hB.cell (p := ⟨b, off + j * 3 + 1, none⟩) (by show b < B; omega), hB.cell (p := ⟨b, off + j * 3 + 2, none⟩) (by show b < B; omega)]
  exact ⟨a0, a1, u, a2, hu.below hB hs⟩
theorem RHops.form {w : World} {v : Value} {L : List Hop} (h : RHops w v L) : ∃ ao cap, v = .slice ao L.length cap ∧ L.length ≤ maxLen ∧
  (0 < L.length → ∃ b off, ao = some ⟨b, off, none⟩ ∧ b < w.heap.size ∧ ∀ j (hj : j < L.length), w.cell? ⟨b, off + j * 3, none⟩ = some (sv L[j].host) ∧ w.cell? ⟨b, off + j * 3 + 1, none⟩ = some (.int .i64 L[j].port) ∧ ∃ u, w.cell? ⟨b, off + j * 3 + 2, none⟩ = some u ∧ RPrms w u L[j].ps) := by
 rcases h with ⟨⟨ao, cap, rfl⟩, rfl⟩ | ⟨b, off, cap, rfl, h2, h2', h3, h4⟩
 ·exact ⟨ao, cap, rfl, Nat.zero_le _, fun h => by simp at h⟩
 ·exact ⟨some ⟨b, off, none⟩, cap, rfl, Nat.le_trans h2 h2', fun _ => ⟨b, off, rfl, h3, h4⟩⟩
theorem RHops.nil (w : World) : RHops w (.slice none 0 0) [] := .inl ⟨⟨_, _, rfl⟩, rfl⟩
theorem cell_heap {w w' : World} {b : Nat} (h : w'.heap[b]? = w.heap[b]?) (o : Nat) : w'.cell? ⟨b, o, none⟩ = w.cell? ⟨b, o, none⟩ := by
 unfold World.cell?; rw [h]
theorem RPrms.heap {w w' : World} {u : Value} {L : List Prm} (h : RPrms w u L) (hs : w.heap.size ≤ w'.heap.size) (hb : L ≠ [] → ∀ a n c, u = .slice (some a) n c → a.block < w.heap.size → w'.heap[a.block]? = w.heap[a.block]?) : RPrms w' u L := by
 rcases h with h | ⟨b, off, cap, h1, h2, h2', h3, h4⟩
 ·exact .inl h
 ·by_cases hL : L = []
  ·subst hL
   exact .inl ⟨⟨_, _, h1⟩, rfl⟩
  ·refine .inr ⟨b, off, cap, h1, h2, h2', Nat.lt_of_lt_of_le h3 hs, fun j hj => ?_⟩
   have e := hb hL _ _ _ h1 h3
   rw [cell_heap e, cell_heap e, cell_heap e]
   exact h4 j hj
def rowV (r : Hop × Value) : List Value := [sv r.1.host, .int .i64 r.1.port, r.2]
def Hops (w : World) (base : Nat) (v : Value) (R : List (Hop × Value)) : Prop :=
 w.ownsRow base 90 3 v R.length (R.flatMap rowV) ∧ ∀ r ∈ R, RPrms w r.2 r.1.ps ∧ (r.1.ps ≠ [] → ∀ a n c, r.2 = .slice (some a) n c → v.ownBlock ≠ some a.block)
theorem Hops.nil (w : World) (base : Nat) : Hops w base (.slice none 0 0) [] := ⟨World.ownsRow_nil w base _ 3, fun r hr => by cases hr⟩
theorem flat_atV : ∀ (L : List (Hop × Value)) (j : Nat) (hj : j < L.length) (i : Nat), i < 3 → (L.flatMap rowV)[j * 3 + i]? = (rowV L[j])[i]?
 | p :: r, 0, _, i, hi => by
  rw [List.flatMap_cons, Nat.zero_mul, Nat.zero_add, List.getElem?_append_left (by simpa [rowV] using hi)]; rfl
 | p :: r, j + 1, hj, i, hi => by
  rw [List.flatMap_cons, List.getElem?_append_right (by simp [rowV]; omega)]
  have : (j + 1) * 3 + i - (rowV p).length = j * 3 + i := by simp [rowV]; omega
  rw [this]
  exact flat_atV r j (by simpa using hj) i hi
theorem Hops.read {w : World} {base : Nat} {v : Value} {R : List (Hop × Value)} (h : Hops w base v R) : RHops w v (R.map Prod.fst) := by
 rcases RRow.of_own h.1 with ⟨h1, h2, _⟩ | ⟨b, off, cap, h1, h2, h2', h3, h4⟩
 ·exact .inl ⟨h1, by rw [List.eq_nil_of_length_eq_zero h2]; rfl⟩
 ·refine .inr ⟨b, off, cap, by rw [List.length_map]; exact h1, by rw [List.length_map]; exact h2, h2', h3, fun j hj => ?_⟩
  rw [List.length_map] at hj
  rw [List.getElem_map]
  exact ⟨h4 (j * 3) _ (flat_atV R j hj 0 (by decide)), h4 (j * 3 + 1) _ (flat_atV R j hj 1 (by decide)), R[j].2, h4 (j * 3 + 2) _ (flat_atV R j hj 2 (by decide)), (h.2 _ (List.getElem_mem hj)).1⟩
theorem Hops.below {w w' : World} {base B : Nat} {v : Value} {R : List (Hop × Value)} (h : Hops w base v R) (hB : Below B w w') (hs : w.heap.size ≤ B) : Hops w' base v R := by
 refine ⟨⟨h.1.1, ?_⟩, fun r hr => ⟨(h.2 r hr).1.below hB hs, (h.2 r hr).2⟩⟩
 rcases h.1.2 with hn | ⟨g, cap, cur, rfl, hb, hgg, rest⟩
 ·exact .inl hn
 ·refine .inr ⟨g, cap, cur, rfl, hb, ?_, rest⟩
  have hlt := (Array.getElem?_eq_some_iff.1 hgg).1
  rw [hB.block g (by omega)]; exact hgg
theorem Hops.lt {w : World} {base : Nat} {v : Value} {R : List (Hop × Value)} (h : Hops w base v R) : ∀ k, v.ownBlock = some k → k < w.heap.size := by
 intro k hk
 rcases h.1.2 with ⟨rfl, _⟩ | ⟨g, cap, cur, rfl, hb, hgg, rest⟩
 ·simp [Value.ownBlock] at hk
 ·have e : g = k := by simpa [Value.ownBlock] using hk
  subst e
  exact (Array.getElem?_eq_some_iff.1 hgg).1
theorem Hops.len {w : World} {base : Nat} {v : Value} {R : List (Hop × Value)} (h : Hops w base v R) : ∃ ao cap, v = .slice ao R.length cap ∧ (∀ a, ao = some a → base ≤ a.block) := by
 rcases h.1.2 with ⟨h1, h2⟩ | ⟨g, cap, _, h1, hb, _⟩
 ·exact ⟨none, 0, by rw [h1, h2], fun a h => by cases h⟩
 ·exact ⟨_, cap, h1, fun a h => by injection h with h; rw [← h]; exact hb⟩
theorem hops_len {w : World} {base : Nat} {v : Value} {R : List (Hop × Value)} (h : Hops w base v R) (ty : TypeId) (w' : World) :
  (Builtin.len_ #[85] ty #[v]).run Tryz.prog w' = .ok (goInt R.length) w' := by
 obtain ⟨ao, cap, rfl, _⟩ := h.len
 exact run_len_slice _ 85 ty ao R.length cap (show Tryz.prog.underlying 85 = some (.slice (Tryz.prog.elem 85)) by kernel_rfl)
theorem infoV : infoIs Tryz.prog 90 (.agg #[.string ⟨#[]⟩, .int .i64 0, .slice none 0 0]) 3 48 := by unfold infoIs; kernel_rfl
section
variable {P : Program} {ops : Array Oper} {rest : List Oper} {o : Oper} {a : Act} {Q : Exit → Act → World → Prop}
theorem run_app_blk (w : World) (base : Nat) (t ty e : TypeId) (i : TypeInfo) (z : Value) (size bytes : Nat) (ht : P.underlying t = some (.slice e)) (hi : P.info? e = some i) (hz : i.zero = some z)
  (hsize : i.size = size) (hby : i.bytes = bytes) (hzs : z.cells.size = size) (hsz : 0 < size)
  (v : Value) (n : Nat) (xs : List Value) (hown : w.ownsRow base e size v n xs)
  (ad : Addr) (m c : Nat) (news : List Value) (hl : news.length = m * size) (hnews : ∀ j u, news[j]? = some u → w.cell? (ad.add j) = some u) (h1 : ∀ u ∈ news, u.oneCell' = true) (hm : 0 < m)
  (h63 : n + m ≤ maxLen) (hbytes : (n + m) * bytes ≤ 140737488355328) (hbase : base ≤ w.heap.size) :
  ∃ v' w', (Builtin.append_ #[t, t] ty #[v, .slice (some ad) m c]).run P w = .ok v' w' ∧ w'.ownsRow base e size v' (n + m) (xs ++ news) ∧ w.grownBy w' v.ownBlock ∧ (v'.ownBlock = v.ownBlock ∨ v'.ownBlock = some w.heap.size) := by
 obtain ⟨v', w', hr, h2, h3, _⟩ := run_append_own (P := P) w base t ty e i z size bytes ht hi hz hsize hby hzs hsz v n xs hown ad m c news hl hnews h1 h63 hbytes hbase
 refine ⟨v', w', hr, h2, h3, ?_⟩
 subst hsize
 subst hby
 have hsmall : n + m ≤ 9223372036854775807 := by simp only [maxLen] at h63; omega
 rcases hown.2 with ⟨rfl, rfl⟩ | ⟨g, cap, cur, rfl, hbg, hg, hnc, hcm, hcs, htake⟩
 ·have hr2 := run_append_nil (P := P) w t ty e i z ht hi hz ad m c news hl hnews hm (by omega) (by have hb := hbytes; simp only [Nat.zero_add] at hb; omega)
  rw [hr] at hr2
  injection hr2 with e1 e2
  exact .inr (by rw [e1]; rfl)
 ·by_cases hroom : n + m ≤ cap
  ·have hfit : n * i.size + news.length ≤ cur.size := by rw [hl, hcs, ← Nat.add_mul]; exact Nat.mul_le_mul_right _ hroom
   have hr2 := run_append_room (P := P) w t ty e i ht hi g n cap cur hg ad m c news hl hnews h1 hroom hfit
   rw [hr] at hr2
   injection hr2 with e1 e2
   exact .inl (by rw [e1]; rfl)
  ·have holds : ∀ j u, xs[j]? = some u → w.cell? ((⟨g, 0, none⟩ : Addr).add j) = some u := hown.cells (g := g) rfl
   have hr2 := run_append_grow (P := P) w t ty e i z ht hi hz ⟨g, 0, none⟩ n cap xs hown.1 holds ad m c news hl hnews (by omega) (by omega) (growslice_fits (by omega) hbytes)
   rw [hr] at hr2
   injection hr2 with e1 e2
   exact .inr (by rw [e1]; rfl)
end
end Go.Proofs.YtgkilllbkljibaaGreatDoor
