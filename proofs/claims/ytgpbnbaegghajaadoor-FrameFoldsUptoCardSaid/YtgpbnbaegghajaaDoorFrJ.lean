/-
  frame.start and rosterref06.start: both say what startS says.
-/
import Derived.Test.YtgpbnbaegghajaaDoorFrI
namespace Go.Proofs.YtgpbnbaegghajaaDoor
open Go.RowKit

/-- what a first line is in memory -/
def StartPost (r : Option Mg) (w : World) (e : Ending) (w' : World) : Prop :=
  ∃ v ok, e = .returned (.tuple #[v, .bool ok]) ∧ Below w.heap.size w w' ∧ (∃ (M T : ByteArray) (x : Int) (R B : ByteArray), v = .agg #[.string M, .string T, .int .i64 x, .string R, .slice none 0 0, .string B]) ∧ match r with
    | none => ok = false
    | some m => ok = true ∧ v = mgv m (.slice none 0 0) ∧ m.hdrs = [] ∧ m.body = []

theorem startS_res (l : List UInt8) (h : same (cutb 32 l).1 ver = true) : startS l =
    if ((cutb 32 l).2.2 && (cutb 32 (cutb 32 l).2.1).2.2 && ((number (cutb 32 (cutb 32 l).2.1).1 699).2 == 0) && decide ((bs (cutb 32 (cutb 32 l).2.1).1).size = 3) && firstS ⟨[], [], (number (cutb 32 (cutb 32 l).2.1).1 699).1, us (bs (cutb 32 (cutb 32 l).2.1).2.1), [], []⟩) = true
    then some ⟨[], [], (number (cutb 32 (cutb 32 l).2.1).1 699).1, (cutb 32 (cutb 32 l).2.1).2.1, [], []⟩ else none := by
  unfold startS startOf
  rw [if_pos h, us_bs, size_bs]
  simp only [Bool.and_eq_true, beq_iff_eq, decide_eq_true_eq]
  by_cases h1 : (cutb 32 l).2.2 = true ∧ (cutb 32 (cutb 32 l).2.1).2.2 = true
  · rw [if_pos h1]
    by_cases h2 : (number (cutb 32 (cutb 32 l).2.1).1 699).2 = 0 ∧ (cutb 32 (cutb 32 l).2.1).1.length = 3 ∧ firstS ⟨[], [], (number (cutb 32 (cutb 32 l).2.1).1 699).1, (cutb 32 (cutb 32 l).2.1).2.1, [], []⟩ = true
    · rw [if_pos h2, if_pos ⟨⟨⟨h1, h2.1⟩, h2.2.1⟩, h2.2.2⟩]
    · rw [if_neg h2, if_neg]; rintro ⟨⟨⟨_, a⟩, b⟩, c⟩; exact h2 ⟨a, b, c⟩
  · rw [if_neg h1, if_neg]; rintro ⟨⟨⟨a, _⟩, _⟩, _⟩; exact h1 a
theorem startS_req (l : List UInt8) (h : same (cutb 32 l).1 ver = false) : startS l =
    if ((cutb 32 l).2.2 && (cutb 32 (cutb 32 l).2.1).2.2 && same (cutb 32 (cutb 32 l).2.1).2.1 ver && !(decide ((bs (cutb 32 l).1).size = 0)) && firstS ⟨us (bs (cutb 32 l).1), us (bs (cutb 32 (cutb 32 l).2.1).1), 0, [], [], []⟩) = true
    then some ⟨(cutb 32 l).1, (cutb 32 (cutb 32 l).2.1).1, 0, [], [], []⟩ else none := by
  unfold startS startOf
  rw [if_neg (show ¬ (same (cutb 32 l).1 ver = true) by rw [h]; decide), us_bs, us_bs, size_bs]
  simp only [Bool.and_eq_true, Bool.not_eq_true', decide_eq_false_iff_not, List.length_eq_zero_iff]
  by_cases h1 : (cutb 32 l).2.2 = true ∧ (cutb 32 (cutb 32 l).2.1).2.2 = true
  · rw [if_pos h1]
    by_cases h2 : same (cutb 32 (cutb 32 l).2.1).2.1 ver = true ∧ (cutb 32 l).1 ≠ [] ∧ firstS ⟨(cutb 32 l).1, (cutb 32 (cutb 32 l).2.1).1, 0, [], [], []⟩ = true
    · rw [if_pos h2, if_pos ⟨⟨⟨h1, h2.1⟩, h2.2.1⟩, h2.2.2⟩]
    · rw [if_neg h2, if_neg]; rintro ⟨⟨⟨_, a⟩, b⟩, c⟩; exact h2 ⟨a, b, c⟩
  · rw [if_neg h1, if_neg]; rintro ⟨⟨⟨a, _⟩, _⟩, _⟩; exact h1 a

theorem start_c (s : ByteArray) (hs : s.size ≤ 4294967280) (w : World) (hm : Ml w) :
    Calls Tryd.prog 26 #[.string s] w fun e w' => StartPost (startS (us s)) w e w' := by
  have l1 := cutb_le 32 (us s)
  have l2 := cutb_le 32 (cutb 32 (us s)).2.1
  rw [length_us] at l1
  have H1 := fun wx hx => cut_c s (by omega) 32 wx hx
  have H2 := fun wx hx => cut_c (bs (cutb 32 (us s)).2.1) (by rw [size_bs]; omega) 32 wx hx
  rw [us_bs] at H2
  have H3 := fun wx => same_c (bs (cutb 32 (us s)).1) ⟨#[83, 73, 80, 47, 50, 46, 48]⟩ (by rw [size_bs]; omega) (by decide) wx
  rw [us_bs, show us ⟨#[83, 73, 80, 47, 50, 46, 48]⟩ = ver from rfl] at H3
  cases hv : same (cutb 32 (us s)).1 ver
  · rw [hv] at H3
    have H4 := fun wx => (same_c (bs (cutb 32 (cutb 32 (us s)).2.1).2.1) ⟨#[83, 73, 80, 47, 50, 46, 48]⟩ (by rw [size_bs]; omega) (by decide) wx).mono (fun e w' ⟨a, b⟩ => (⟨a, b.below⟩ : _ ∧ Below wx.heap.size wx w'))
    rw [us_bs, show us ⟨#[83, 73, 80, 47, 50, 46, 48]⟩ = ver from rfl] at H4
    refine (start_req s _ _ _ _ _ _ _ (by rw [size_bs]; omega) (by rw [size_bs]; omega) w hm H1 H2 H3 H4).mono ?_
    rintro e w' ⟨v, rfl, hB, rfl⟩
    refine ⟨_, _, rfl, hB, ⟨_, _, _, _, _, rfl⟩, ?_⟩
    rw [startS_req _ hv]
    split
    · rename_i hh heq
      split at heq
      · cases heq
      · rename_i hc; simpa using hc
    · rename_i m heq
      split at heq
      · rename_i hc
        injection heq with heq
        subst heq
        exact ⟨hc, rfl, rfl, rfl⟩
      · cases heq
  · rw [hv] at H3
    have H4 := fun wx => number_c (bs (cutb 32 (cutb 32 (us s)).2.1).1) (by rw [size_bs]; omega) 699 (by decide) (by decide) wx
    rw [us_bs] at H4
    refine (start_res s _ _ _ _ _ _ _ _ (by rw [size_bs]; omega) w hm H1 H2 H3 H4).mono ?_
    rintro e w' ⟨v, rfl, hB, rfl⟩
    refine ⟨_, _, rfl, hB, ⟨_, _, _, _, _, rfl⟩, ?_⟩
    rw [startS_res _ hv]
    split
    · rename_i hh heq
      split at heq
      · cases heq
      · rename_i hc; simpa using hc
    · rename_i m heq
      split at heq
      · rename_i hc
        injection heq with heq
        subst heq
        exact ⟨hc, rfl, rfl, rfl⟩
      · cases heq

/-- a number of three digits, with either bound -/
theorem number_999 (b : List UInt8) (c : List UInt8) : (((number b 999).2 == 0) && firstS ⟨[], [], (number b 999).1, c, [], []⟩) = (((number b 699).2 == 0) && firstS ⟨[], [], (number b 699).1, c, [], []⟩) ∧
    ((((number b 699).2 == 0) && firstS ⟨[], [], (number b 699).1, c, [], []⟩) = true → (number b 999).1 = (number b 699).1) := by
  by_cases hd : b = [] ∨ allc 1 b = false
  · have e : ∀ most, number b most = (0, 10) := fun most => by unfold number; rw [if_pos hd]
    rw [e, e]; exact ⟨rfl, fun _ => rfl⟩
  · have hb : b ≠ [] := fun h => hd (.inl h)
    have ha : b.all isDig = true := by
      rw [← allc_dig]
      cases h : allc 1 b
      · exact absurd (.inr h) hd
      · rfl
    rw [number_val 999 (by decide) b hb ha, number_val 699 (by decide) b hb ha]
    by_cases h6 : valF b 0 ≤ 699
    · rw [if_pos h6, if_pos (by omega)]; exact ⟨rfl, fun _ => rfl⟩
    · rw [if_neg h6]
      by_cases h9 : valF b 0 ≤ 999
      · rw [if_pos h9]
        have hf : firstS ⟨[], [], valF b 0, c, [], []⟩ = false := by
          unfold firstS
          rw [if_pos rfl]
          rw [show decide (valF b 0 ≤ 699) = false from decide_eq_false h6]; simp
        dsimp only
        rw [hf]; exact ⟨by simp, fun h => by simp at h⟩
      · rw [if_neg h9]; exact ⟨rfl, fun _ => rfl⟩

set_option maxRecDepth 100000 in
set_option maxHeartbeats 3200000 in
theorem startR_none (s A R B C : ByteArray) (o1 o2 : Bool) (ho : (o1 && o2) = false) (w : World)
    (H1 : ∀ wx, Calls Tryd.prog 36 #[.string s, .int .u8 32] wx fun e w' => e = .returned (.tuple #[.string A, .string R, .bool o1]) ∧ Drn wx w')
    (H2 : ∀ wx, Calls Tryd.prog 36 #[.string R, .int .u8 32] wx fun e w' => e = .returned (.tuple #[.string B, .string C, .bool o2]) ∧ Drn wx w') :
    Calls Tryd.prog 35 #[.string s] w fun x w' => ∃ v, x = .returned (.tuple #[v, .bool false]) ∧ Below w.heap.size w w' ∧ v = .agg #[.string ⟨#[]⟩, .string ⟨#[]⟩, .int .i64 0, .string ⟨#[]⟩, .slice none 0 0, .string ⟨#[]⟩] := by
  have H1' := Lib.hid H1
  have H2' := Lib.hid H2
  clear H1 H2
  have b2 : Blk (w.alloc (.cells #[.string ⟨#[]⟩, .string ⟨#[]⟩, .int .i64 0, .string ⟨#[]⟩, .slice none 0 0, .string ⟨#[]⟩] 25)) w.heap.size 25 #[.string ⟨#[]⟩, .string ⟨#[]⟩, .int .i64 0, .string ⟨#[]⟩, .slice none 0 0, .string ⟨#[]⟩] := Blk.new _ _ _
  have hBS : Below w.heap.size w (w.alloc (.cells #[.string ⟨#[]⟩, .string ⟨#[]⟩, .int .i64 0, .string ⟨#[]⟩, .slice none 0 0, .string ⟨#[]⟩] 25)) := (Below.refl _ _).alloc (Nat.le_refl _) _
  have HX := Lib.hid (fun (wx : World) (h : Drn (w.alloc (.cells #[.string ⟨#[]⟩, .string ⟨#[]⟩, .int .i64 0, .string ⟨#[]⟩, .slice none 0 0, .string ⟨#[]⟩] 25)) wx) => (⟨b2.call h.below, hBS.trans h.below⟩ : Blk wx w.heap.size 25 #[.string ⟨#[]⟩, .string ⟨#[]⟩, .int .i64 0, .string ⟨#[]⟩, .slice none 0 0, .string ⟨#[]⟩] ∧ Below w.heap.size w wx))
  clear b2 hBS
  have hcase : o1 = false ∨ (o1 = true ∧ o2 = false) := by cases o1 <;> cases o2 <;> simp_all
  rcases hcase with rfl | ⟨rfl, rfl⟩
  all_goals
    go_enter Tryd.func35, Tryd.ntmps35
    go_wp2_with (first | (go_at_call 36; ((with_reducible refine (H1'.out _).mono ?_); rintro x w1 ⟨rfl, hD1⟩)) | (go_at_call 36; ((with_reducible refine (H2'.out _).mono ?_); rintro x w2 ⟨rfl, hD2⟩); obtain ⟨b2, hBS⟩ := HX.out w2 (hD1.trans hD2); obtain ⟨_, _, _, _, _, _, f0, f1, f2, f3, f4, f5, z2⟩ := b2.g6))
    refine any_world (R := bodyPost _ _ _ _ _) (fun w' => Blk w' w.heap.size 25 #[.string ⟨#[]⟩, .string ⟨#[]⟩, .int .i64 0, .string ⟨#[]⟩, .slice none 0 0, .string ⟨#[]⟩] ∧ Below w.heap.size w w') ⟨b2.put6, below_put6 hBS (Nat.le_refl _)⟩ ?_
    rintro wF ⟨bF, hBF⟩
    obtain ⟨r0, r1, r2, r3, r4, r5, _⟩ := bF.g6
    refine bodyPost_ret (v := .tuple #[.agg #[.string ⟨#[]⟩, .string ⟨#[]⟩, .int .i64 0, .string ⟨#[]⟩, .slice none 0 0, .string ⟨#[]⟩], .bool false]) (by simp [results, Tryd.results35, go_sem, r0, r1, r2, r3, r4, r5]) rfl ?_
    exact ⟨_, rfl, hBF, rfl⟩

theorem startR_c (s : ByteArray) (hs : s.size ≤ 4294967280) (w : World) :
    Calls Tryd.prog 35 #[.string s] w fun e w' => StartPost (startS (us s)) w e w' := by
  have l1 := cutb_le 32 (us s)
  have l2 := cutb_le 32 (cutb 32 (us s)).2.1
  rw [length_us] at l1
  have H1 := fun wx => cutR_c s (by omega) 32 wx
  have H2 := fun wx => cutR_c (bs (cutb 32 (us s)).2.1) (by rw [size_bs]; omega) 32 wx
  rw [us_bs] at H2
  have H3 := fun wx => sameR_c (bs (cutb 32 (us s)).1) ⟨#[83, 73, 80, 47, 50, 46, 48]⟩ (by rw [size_bs]; omega) (by decide) wx
  rw [us_bs, show us ⟨#[83, 73, 80, 47, 50, 46, 48]⟩ = ver from rfl] at H3
  cases ho : ((cutb 32 (us s)).2.2 && (cutb 32 (cutb 32 (us s)).2.1).2.2)
  · refine (startR_none s _ _ _ _ _ _ ho w H1 H2).mono ?_
    rintro e w' ⟨v, rfl, hB, rfl⟩
    refine ⟨_, _, rfl, hB, ⟨_, _, _, _, _, rfl⟩, ?_⟩
    have : startS (us s) = none := by
      unfold startS
      rw [if_neg]
      rintro ⟨a, b⟩
      rw [a, b] at ho; exact absurd ho (by decide)
    rw [this]
  · rw [Bool.and_eq_true] at ho
    rw [ho.1] at H1
    rw [ho.2] at H2
    cases hv : same (cutb 32 (us s)).1 ver
    · rw [hv] at H3
      have H4 := fun wx => sameR_c (bs (cutb 32 (cutb 32 (us s)).2.1).2.1) ⟨#[83, 73, 80, 47, 50, 46, 48]⟩ (by rw [size_bs]; omega) (by decide) wx
      rw [us_bs, show us ⟨#[83, 73, 80, 47, 50, 46, 48]⟩ = ver from rfl] at H4
      refine (startR_req s _ _ _ _ _ (by rw [size_bs]; omega) (by rw [size_bs]; omega) w H1 H2 H3 H4).mono ?_
      rintro e w' ⟨v, rfl, hB, rfl⟩
      refine ⟨_, _, rfl, hB, ⟨_, _, _, _, _, rfl⟩, ?_⟩
      rw [startS_req _ hv, ho.1, ho.2]
      have hcc : (true && true && same (cutb 32 (cutb 32 (us s)).2.1).2.1 ver && !(decide ((bs (cutb 32 (us s)).1).size = 0)) && firstS ⟨us (bs (cutb 32 (us s)).1), us (bs (cutb 32 (cutb 32 (us s)).2.1).1), 0, [], [], []⟩) =
          (!(decide ((bs (cutb 32 (us s)).1).size = 0)) && firstS ⟨us (bs (cutb 32 (us s)).1), us (bs (cutb 32 (cutb 32 (us s)).2.1).1), 0, [], [], []⟩ && same (cutb 32 (cutb 32 (us s)).2.1).2.1 ver) := by
        cases same (cutb 32 (cutb 32 (us s)).2.1).2.1 ver <;> simp
      rw [hcc]
      split
      · rename_i hh heq
        split at heq
        · cases heq
        · rename_i hc; simpa using hc
      · rename_i m heq
        split at heq
        · rename_i hc
          injection heq with heq
          subst heq
          exact ⟨hc, rfl, rfl, rfl⟩
        · cases heq
    · rw [hv] at H3
      have H4 := fun wx => numberR_c (bs (cutb 32 (cutb 32 (us s)).2.1).1) (by rw [size_bs]; omega) 999 (by decide) (by decide) wx
      rw [us_bs] at H4
      refine (startR_res s _ _ _ _ _ _ (by rw [size_bs]; omega) w H1 H2 H3 H4).mono ?_
      rintro e w' ⟨v, rfl, hB, rfl⟩
      refine ⟨_, _, rfl, hB, ⟨_, _, _, _, _, rfl⟩, ?_⟩
      obtain ⟨n1, n2⟩ := number_999 (cutb 32 (cutb 32 (us s)).2.1).1 (cutb 32 (cutb 32 (us s)).2.1).2.1
      rw [startS_res _ hv, ho.1, ho.2]
      have hcc : (true && true && ((number (cutb 32 (cutb 32 (us s)).2.1).1 699).2 == 0) && decide ((bs (cutb 32 (cutb 32 (us s)).2.1).1).size = 3) && firstS ⟨[], [], (number (cutb 32 (cutb 32 (us s)).2.1).1 699).1, us (bs (cutb 32 (cutb 32 (us s)).2.1).2.1), [], []⟩) =
          (((number (cutb 32 (cutb 32 (us s)).2.1).1 999).2 == 0) && decide ((bs (cutb 32 (cutb 32 (us s)).2.1).1).size = 3) && firstS ⟨[], [], (number (cutb 32 (cutb 32 (us s)).2.1).1 999).1, us (bs (cutb 32 (cutb 32 (us s)).2.1).2.1), [], []⟩) := by
        rw [us_bs, Bool.and_assoc _ _ (firstS _), Bool.and_comm (decide _) (firstS _), ← Bool.and_assoc _ (firstS _) (decide _), Bool.and_assoc _ (decide _) (firstS ⟨[], [], (number (cutb 32 (cutb 32 (us s)).2.1).1 999).1, _, [], []⟩), Bool.and_comm (decide _) (firstS ⟨[], [], (number (cutb 32 (cutb 32 (us s)).2.1).1 999).1, _, [], []⟩), ← Bool.and_assoc _ (firstS ⟨[], [], (number (cutb 32 (cutb 32 (us s)).2.1).1 999).1, _, [], []⟩) (decide _), n1]
        simp
      rw [hcc]
      split
      · rename_i hh heq
        split at heq
        · cases heq
        · rename_i hc; simpa using hc
      · rename_i m heq
        split at heq
        · rename_i hc
          injection heq with heq
          subst heq
          refine ⟨hc, ?_, rfl, rfl⟩
          have hn : (number (cutb 32 (cutb 32 (us s)).2.1).1 999).1 = (number (cutb 32 (cutb 32 (us s)).2.1).1 699).1 := by
            refine n2 ?_
            rw [← n1]
            rw [us_bs] at hc
            simp only [Bool.and_eq_true] at hc ⊢
            exact ⟨hc.1.1, hc.2⟩
          rw [hn]; rfl
        · cases heq

end Go.Proofs.YtgpbnbaegghajaaDoor
