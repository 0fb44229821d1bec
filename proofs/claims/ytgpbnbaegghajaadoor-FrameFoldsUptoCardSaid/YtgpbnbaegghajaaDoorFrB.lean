/-
  frame.Long, length, target and the reference's Long, length, behind.
-/
import Derived.Test.YtgpbnbaegghajaaDoorFrA
import Derived.Test.YtgpbnbaegghajaaDoorPrm
namespace Go.Proofs.YtgpbnbaegghajaaDoor
open Go.RowKit

/-- the long name of a text in small letters -/
def longL (l : List UInt8) : List UInt8 → List (List UInt8) → Option (List UInt8)
  | s :: r, x :: t => if l == [s] then some x else longL l r t
  | _, _ => none
theorem longL_one (c : UInt8) : ∀ (r : List UInt8) (t : List (List UInt8)), longL [c] r t = longGo c r t
  | [], _ => by simp [longL, longGo]
  | _ :: _, [] => by simp [longL, longGo]
  | s :: r, x :: t => by
    rw [longL, longGo, longL_one c r t]
    by_cases h : c.toNat = s.toNat
    · rw [if_pos h, if_pos (by rw [UInt8.toNat_inj.1 h]; exact beq_self_eq_true _)]
    · rw [if_neg h, if_neg]
      intro e
      have := eq_of_beq e
      injection this with this _
      exact h (by rw [this])
theorem longL_no (l : List UInt8) (h : l.length ≠ 1) : ∀ (r : List UInt8) (t : List (List UInt8)), longL l r t = none
  | [], _ => by simp [longL]
  | _ :: _, [] => by simp [longL]
  | s :: r, x :: t => by
    rw [longL, if_neg, longL_no l h r t]
    intro e
    rw [eq_of_beq e] at h; exact h rfl
theorem longS_L (l : List UInt8) : longS l = (longL (lowr l) shorts longs).getD l := by
  by_cases h : l.length = 1
  · match l, h with
    | [c], _ => rw [show lowr [c] = [low c] from rfl, longL_one]; rfl
  · rw [longS_two l h, longL_no _ (by rw [lowr_len]; exact h)]; rfl
theorem one_us (s : ByteArray) (h : s.size = 1) : ∃ c, us s = [c] := by
  have : (us s).length = 1 := (length_us s).trans h
  match us s, this with
  | [c], _ => exact ⟨c, rfl⟩
theorem shorts_case (x : UInt8) : x = 118 ∨ x = 102 ∨ x = 116 ∨ x = 105 ∨ x = 109 ∨ x = 101 ∨ x = 108 ∨ x = 99 ∨ x = 115 ∨ x = 107 ∨ x = 111 ∨ x = 117 ∨
    (¬ x = 118 ∧ ¬ x = 102 ∧ ¬ x = 116 ∧ ¬ x = 105 ∧ ¬ x = 109 ∧ ¬ x = 101 ∧ ¬ x = 108 ∧ ¬ x = 99 ∧ ¬ x = 115 ∧ ¬ x = 107 ∧ ¬ x = 111 ∧ ¬ x = 117) := by
  have := all_bytes (fun x => x = 118 ∨ x = 102 ∨ x = 116 ∨ x = 105 ∨ x = 109 ∨ x = 101 ∨ x = 108 ∨ x = 99 ∨ x = 115 ∨ x = 107 ∨ x = 111 ∨ x = 117 ∨
    (¬ x = 118 ∧ ¬ x = 102 ∧ ¬ x = 116 ∧ ¬ x = 105 ∧ ¬ x = 109 ∧ ¬ x = 101 ∧ ¬ x = 108 ∧ ¬ x = 99 ∧ ¬ x = 115 ∧ ¬ x = 107 ∧ ¬ x = 111 ∧ ¬ x = 117)) (by decide +kernel) x
  exact this

set_option maxHeartbeats 1600000 in
theorem long_c (s : ByteArray) (hs : s.size ≤ 9223372036854775807) (w : World) :
    Calls Tryd.prog 23 #[.string s] w fun e w' => e = .returned (.string (bs (longS (us s)))) ∧ Below w.heap.size w w' := by
  by_cases h1 : s.size = 1
  · obtain ⟨c, hc⟩ := one_us s h1
    have H := Lib.hid (fun wx => lowerP_c s hs wx)
    have hl : longS (us s) = (longGo (low c) shorts longs).getD (us s) := by rw [hc]; rfl
    obtain ⟨L, hL0⟩ : ∃ L, L = bs (lowr (us s)) := ⟨_, rfl⟩
    have hL : L.toList = [low c] := by rw [hL0, toList_bs, hc]; rfl
    rw [← hL0] at H
    clear hL0 hc
    obtain ⟨x, hx⟩ : ∃ x, x = low c := ⟨_, rfl⟩
    rw [← hx] at hL hl
    clear hx
    have n1 : ((s.size : Int) != 1) = false := by simp; omega
    clear h1
    rcases shorts_case x with rfl | rfl | rfl | rfl | rfl | rfl | rfl | rfl | rfl | rfl | rfl | rfl | ⟨a1, a2, a3, a4, a5, a6, a7, a8, a9, a10, a11, a12⟩
    case inr.inr.inr.inr.inr.inr.inr.inr.inr.inr.inr.inr =>
      have e : ∀ y : UInt8, ¬ x = y → ¬ x.toNat = y.toNat := fun y h h' => h (UInt8.toNat_inj.1 h')
      have hl2 : longS (us s) = us s := by
        rw [hl]
        simp only [longGo, shorts, longs, if_neg (e _ a1), if_neg (e _ a2), if_neg (e _ a3), if_neg (e _ a4), if_neg (e _ a5), if_neg (e _ a6), if_neg (e _ a7), if_neg (e _ a8), if_neg (e _ a9), if_neg (e _ a10), if_neg (e _ a11), if_neg (e _ a12), Option.getD_none]
      have f : ∀ y : UInt8, ¬ x = y → ¬ L.toList = [y] ∧ (L.toList == [y]) = false := fun y h => by
        have : ¬ L.toList = [y] := by rw [hL]; intro h'; injection h' with h' _; exact h h'
        exact ⟨this, by simpa using this⟩
      obtain ⟨m1, e1⟩ := f 118 a1
      obtain ⟨m2, e2⟩ := f 102 a2
      obtain ⟨m3, e3⟩ := f 116 a3
      obtain ⟨m4, e4⟩ := f 105 a4
      obtain ⟨m5, e5⟩ := f 109 a5
      obtain ⟨m6, e6⟩ := f 101 a6
      obtain ⟨m7, e7⟩ := f 108 a7
      obtain ⟨m8, e8⟩ := f 99 a8
      obtain ⟨m9, e9⟩ := f 115 a9
      obtain ⟨m10, e10⟩ := f 107 a10
      obtain ⟨m11, e11⟩ := f 111 a11
      obtain ⟨m12, e12⟩ := f 117 a12
      clear hL e f a1 a2 a3 a4 a5 a6 a7 a8 a9 a10 a11 a12
      have HL := Lib.hid hl2
      clear hl hl2
      go_enter Tryd.func23, Tryd.ntmps23
      go_wp2_with (go_at_call 54; refine (H.out _).mono ?_; rintro e wx ⟨rfl, hB⟩)
      go_ret
      exact ⟨ret_bs HL.out.symm, hB⟩
    all_goals
      have HL := Lib.hid hl
      clear hl
      go_enter Tryd.func23, Tryd.ntmps23
      go_wp2_with (go_at_call 54; refine (H.out _).mono ?_; rintro e wx ⟨rfl, hB⟩)
      go_ret
      exact ⟨ret_bs (by rw [HL.out]; rfl), hB⟩
  · have HL := Lib.hid (longS_two (us s) (by rw [length_us]; exact h1))
    have n1 : ((s.size : Int) != 1) = true := by simp; omega
    clear h1
    go_enter Tryd.func23, Tryd.ntmps23
    go_wp2
    go_ret
    exact ⟨ret_bs HL.out.symm, Below.refl _ _⟩

theorem longL_drop (l : List UInt8) (k : Nat) (hk : k < 12) (hn : ¬ l = [shorts.getD k 0]) : longL l (shorts.drop k) (longs.drop k) = longL l (shorts.drop (k + 1)) (longs.drop (k + 1)) := by
  have h1 : shorts.drop k = shorts.getD k 0 :: shorts.drop (k + 1) := by
    have : k < shorts.length := hk
    rw [List.drop_eq_getElem_cons this]; simp [List.getD_eq_getElem?_getD, List.getElem?_eq_getElem this]
  have h2 : longs.drop k = longs.getD k [] :: longs.drop (k + 1) := by
    have : k < longs.length := hk
    rw [List.drop_eq_getElem_cons this]; simp [List.getD_eq_getElem?_getD, List.getElem?_eq_getElem this]
  rw [h1, h2, longL, if_neg (by simpa using hn)]
theorem longL_hit (l : List UInt8) (k : Nat) (hk : k < 12) (hn : l = [shorts.getD k 0]) : longL l (shorts.drop k) (longs.drop k) = some (longs.getD k []) := by
  have h1 : shorts.drop k = shorts.getD k 0 :: shorts.drop (k + 1) := by
    have : k < shorts.length := hk
    rw [List.drop_eq_getElem_cons this]; simp [List.getD_eq_getElem?_getD, List.getElem?_eq_getElem this]
  have h2 : longs.drop k = longs.getD k [] :: longs.drop (k + 1) := by
    have : k < longs.length := hk
    rw [List.drop_eq_getElem_cons this]; simp [List.getD_eq_getElem?_getD, List.getElem?_eq_getElem this]
  rw [h1, h2, longL, if_pos (by rw [hn]; exact beq_self_eq_true _)]
theorem nmLo : (Tryd.f55.name == "runtime.NumGoroutine") = false := by kernel_rfl
theorem bdLo : Tryd.f55.body.isNone = false := by kernel_rfl

set_option maxHeartbeats 3200000 in
theorem longR_c (s : ByteArray) (hs : s.size ≤ 140737488355328) (w : World) :
    Calls Tryd.prog 24 #[.string s] w fun e w' => e = .returned (.string (bs (longS (us s)))) ∧ Below w.heap.size w w' := by
  have H := Lib.hid (fun wx => lowerR_c s hs wx)
  have hl := longS_L (us s)
  obtain ⟨L, hL0⟩ : ∃ L, L = bs (lowr (us s)) := ⟨_, rfl⟩
  have hL : lowr (us s) = L.toList := by rw [hL0, toList_bs]
  rw [← hL0] at H
  rw [hL] at hl
  clear hL0 hL
  have HLS := Lib.hid hl
  clear hl
  go_enter Tryd.func24, Tryd.ntmps24
  go_wp2
  have rc := Lib.hid (fun (k : Nat) (hk : k < 12) (wr : World) (hB : Below (w.heap.size + 1) (w.alloc (.cells #[.string ⟨#[86, 105, 97]⟩, .string ⟨#[70, 114, 111, 109]⟩, .string ⟨#[84, 111]⟩, .string ⟨#[67, 97, 108, 108, 45, 73, 68]⟩, .string ⟨#[67, 111, 110, 116, 97, 99, 116]⟩, .string ⟨#[67, 111, 110, 116, 101, 110, 116, 45, 69, 110, 99, 111, 100, 105, 110, 103]⟩, .string ⟨#[67, 111, 110, 116, 101, 110, 116, 45, 76, 101, 110, 103, 116, 104]⟩, .string ⟨#[67, 111, 110, 116, 101, 110, 116, 45, 84, 121, 112, 101]⟩, .string ⟨#[83, 117, 98, 106, 101, 99, 116]⟩, .string ⟨#[83, 117, 112, 112, 111, 114, 116, 101, 100]⟩, .string ⟨#[69, 118, 101, 110, 116]⟩, .string ⟨#[65, 108, 108, 111, 119, 45, 69, 118, 101, 110, 116, 115]⟩] 9)) wr) =>
    (boxedCell (boxedAt hB) k).trans (show (#[.string ⟨#[86, 105, 97]⟩, .string ⟨#[70, 114, 111, 109]⟩, .string ⟨#[84, 111]⟩, .string ⟨#[67, 97, 108, 108, 45, 73, 68]⟩, .string ⟨#[67, 111, 110, 116, 97, 99, 116]⟩, .string ⟨#[67, 111, 110, 116, 101, 110, 116, 45, 69, 110, 99, 111, 100, 105, 110, 103]⟩, .string ⟨#[67, 111, 110, 116, 101, 110, 116, 45, 76, 101, 110, 103, 116, 104]⟩, .string ⟨#[67, 111, 110, 116, 101, 110, 116, 45, 84, 121, 112, 101]⟩, .string ⟨#[83, 117, 98, 106, 101, 99, 116]⟩, .string ⟨#[83, 117, 112, 112, 111, 114, 116, 101, 100]⟩, .string ⟨#[69, 118, 101, 110, 116]⟩, .string ⟨#[65, 108, 108, 111, 119, 45, 69, 118, 101, 110, 116, 115]⟩] : Array Value)[k]? = some (.string (bs (longs.getD k []))) by
      have := (by decide +kernel : ∀ j : Fin 12, longs.getD j.val [] = longs.getD j.val []) ⟨k, hk⟩
      match k, hk with
      | 0, _ | 1, _ | 2, _ | 3, _ | 4, _ | 5, _ | 6, _ | 7, _ | 8, _ | 9, _ | 10, _ | 11, _ => rfl))
  have ec := Lib.hid (fun (k : Nat) (hk : k < 12) => (show ((⟨#[118, 102, 116, 105, 109, 101, 108, 99, 115, 107, 111, 117]⟩ : ByteArray).extract k (k + 1)).toList = [shorts.getD k 0] by
      match k, hk with
      | 0, _ | 1, _ | 2, _ | 3, _ | 4, _ | 5, _ | 6, _ | 7, _ | 8, _ | 9, _ | 10, _ | 11, _ => rw [toList_us]; rfl))
  obtain ⟨w0, hw0⟩ : ∃ w0 : World, w0 = w.alloc (.cells #[.string ⟨#[86, 105, 97]⟩, .string ⟨#[70, 114, 111, 109]⟩, .string ⟨#[84, 111]⟩, .string ⟨#[67, 97, 108, 108, 45, 73, 68]⟩, .string ⟨#[67, 111, 110, 116, 97, 99, 116]⟩, .string ⟨#[67, 111, 110, 116, 101, 110, 116, 45, 69, 110, 99, 111, 100, 105, 110, 103]⟩, .string ⟨#[67, 111, 110, 116, 101, 110, 116, 45, 76, 101, 110, 103, 116, 104]⟩, .string ⟨#[67, 111, 110, 116, 101, 110, 116, 45, 84, 121, 112, 101]⟩, .string ⟨#[83, 117, 98, 106, 101, 99, 116]⟩, .string ⟨#[83, 117, 112, 112, 111, 114, 116, 101, 100]⟩, .string ⟨#[69, 118, 101, 110, 116]⟩, .string ⟨#[65, 108, 108, 111, 119, 45, 69, 118, 101, 110, 116, 115]⟩] 9) := ⟨_, rfl⟩
  have z0 : w0.heap.size = w.heap.size + 1 := by rw [hw0]; exact World.size_alloc _ _
  have hBw : Below w.heap.size w w0 := by rw [hw0]; exact (Below.refl _ _).alloc (Nat.le_refl _) _
  rw [← hw0] at rc
  simp only [← hw0]
  clear hw0
  obtain ⟨S, hS⟩ : ∃ S : ByteArray, S = ⟨#[118, 102, 116, 105, 109, 101, 108, 99, 115, 107, 111, 117]⟩ := ⟨_, rfl⟩
  have zS : S.size = 12 := by rw [hS]; rfl
  rw [← hS] at ec
  simp only [← hS]
  clear hS
  go_loopw [5] (fun i wr => ∃ k : Nat, k ≤ 12 ∧ i = .int .i64 k ∧ Below (w.heap.size + 1) w0 wr ∧ longL L.toList shorts longs = longL L.toList (shorts.drop k) (longs.drop k)) (fun i _ => 12 - (intOf i).toNat)
  case atStart => exact ⟨0, Nat.zero_le _, rfl, Below.refl _ _, rfl⟩
  case round =>
    obtain ⟨k, hk, rfl, hB, hp⟩ := hrel
    have HP := Lib.hid hp; clear hp
    have hz : w.heap.size + 1 ≤ wr.heap.size := by have := hB.size; omega
    have hBr : Below w.heap.size w wr := hBw.trans (hB.mono (by omega))
    have zSi : (S.size : Int) = 12 := by omega
    by_cases hlt : k < 12
    · have e0 := ec.out k hlt
      have w1 : IntKind.i64.wrap ((k : Int) + 1) = (k : Int) + 1 := IntWalk.i64_in _ (by omega)
      have e1 : ((k : Int) + 1).toNat = k + 1 := by omega
      have q1 : (0 : Int) ≤ (k : Int) := by omega
      have q2 : (k : Int) ≤ (S.size : Int) := by omega
      have q3 : (k : Int) + 1 ≤ (S.size : Int) := by omega
      have q4 : (k : Int) < 12 := by omega
      have q5 : (0 : Int) ≤ (k : Int) + 1 := by omega
      have q6 : (k : Int) + 1 ≤ 12 := by omega
      have q7 : (k : Int) ≤ (k : Int) + 1 := by omega
      have HX := Lib.hid (rc.out k hlt)
      cases hq : (L.toList == (S.extract k (k + 1)).toList)
      · have HN := Lib.hid (show longL L.toList shorts longs = longL L.toList (shorts.drop (k + 1)) (longs.drop (k + 1)) by
          rw [HP.out]; refine longL_drop _ k hlt ?_
          rw [e0] at hq; simpa using hq)
        clear e0
        have nq : ¬ L.toList = (S.extract k (k + 1)).toList := by simpa using hq
        go_wp2
        go_region_law (refine step_callB1 (v0 := .string s) (v := .string L) rfl rfl Tryd.func55 nmLo bdLo ?_ ?_ ?_; (focus rfl); (focus (exact H.out _)); intro w2 hC)
        all_goals
          have hB2 := hB.drew.trans (hC.mono (show w.heap.size + 1 ≤ wr.drew.heap.size from hz))
          clear w1 e1
          go_wp2
          go_roundw
          case rel => exact ⟨k + 1, by omega, by go_num, hB2, HN.out⟩
          case measure => simp [intOf]; omega
      · have HN := Lib.hid (show longL L.toList shorts longs = some (longs.getD k []) by
          rw [HP.out]; refine longL_hit _ k hlt ?_
          rw [e0] at hq; simpa using hq)
        clear e0
        have hq' : L.toList = (S.extract k (k + 1)).toList := by simpa using hq
        have HQ := Lib.hid hq'
        clear hq'
        go_wp2
        go_region_law (refine step_callB1 (v0 := .string s) (v := .string L) rfl rfl Tryd.func55 nmLo bdLo ?_ ?_ ?_; (focus rfl); (focus (exact H.out _)); intro w2 hC)
        all_goals
          have hB2 := hB.drew.trans (hC.mono (show w.heap.size + 1 ≤ wr.drew.heap.size from hz))
          have x0 := HX.out w2 hB2
          go_wp2
          go_ret
          exact ⟨ret_str (by rw [HLS.out, HN.out]; rfl), hBw.trans (hB2.mono (by omega))⟩
    · have HN := Lib.hid (show longL L.toList shorts longs = none by rw [HP.out, show k = 12 by omega]; rfl)
      go_wp2
      go_ret
      exact ⟨ret_bs (by rw [HLS.out, HN.out]; rfl), hBr⟩

theorem length_c (s : ByteArray) (hs : s.size ≤ 9223372036854775807) (w : World) :
    Calls Tryd.prog 32 #[.string s] w fun e w' => e = .returned (.bool (isLen (longS (us s)))) ∧ Below w.heap.size w w' := by
  have H := Lib.hid (fun wx => long_c s hs wx)
  obtain ⟨L, hL⟩ : ∃ L, L = longS (us s) := ⟨_, rfl⟩
  have hLs : L.length ≤ s.size ∨ L.length ≤ 16 := by
    rw [hL]
    by_cases h1 : s.size = 1
    · obtain ⟨c, hc⟩ := one_us s h1
      have e : longS [c] = (longGo (low c) shorts longs).getD [c] := rfl
      rw [hc, e]
      cases hg : longGo (low c) shorts longs with
      | none => left; simp; omega
      | some x =>
        right
        have : ∀ (r : List UInt8) (t : List (List UInt8)), (∀ y ∈ t, y.length ≤ 16) → ∀ x, longGo (low c) r t = some x → x.length ≤ 16 := by
          intro r
          induction r with
          | nil => intro t _ x h; simp [longGo] at h
          | cons a r ih =>
            intro t ht x h
            cases t with
            | nil => simp [longGo] at h
            | cons y t =>
              rw [longGo] at h
              by_cases hc : (low c).toNat = a.toNat
              · rw [if_pos hc] at h; injection h with h; rw [← h]; exact ht y (List.mem_cons_self ..)
              · rw [if_neg hc] at h; exact ih t (fun z hz => ht z (List.mem_cons_of_mem _ hz)) x h
        exact this shorts longs (by decide) x hg
    · left; rw [longS_two _ (by rw [length_us]; exact h1), length_us]; exact Nat.le_refl _
  have H2 := Lib.hid (fun wx => same_c (bs L) ⟨#[67, 111, 110, 116, 101, 110, 116, 45, 76, 101, 110, 103, 116, 104]⟩ (by rw [size_bs]; omega) (by decide) wx)
  rw [us_bs] at H2
  rw [← hL] at H
  have HI := Lib.hid (show isLen (longS (us s)) = same L (us ⟨#[67, 111, 110, 116, 101, 110, 116, 45, 76, 101, 110, 103, 116, 104]⟩) by rw [hL]; rfl)
  obtain ⟨b, hb⟩ : ∃ b, b = same L (us ⟨#[67, 111, 110, 116, 101, 110, 116, 45, 76, 101, 110, 103, 116, 104]⟩) := ⟨_, rfl⟩
  rw [← hb] at H2 HI
  obtain ⟨M, hM⟩ : ∃ M, M = bs L := ⟨_, rfl⟩
  rw [← hM] at H H2
  clear hb hM hL hLs
  go_enter Tryd.func32, Tryd.ntmps32
  go_wp2_with (first | (go_at_call 23; refine (H.out _).mono ?_; rintro e wx ⟨rfl, hB⟩) | (go_at_call 43; refine (H2.out _).mono ?_; rintro e wy ⟨rfl, hD⟩))
  go_ret
  exact ⟨ret_bool HI.out.symm, hB.trans hD.below⟩
theorem lengthR_c (s : ByteArray) (hs : s.size ≤ 140737488355328) (w : World) :
    Calls Tryd.prog 41 #[.string s] w fun e w' => e = .returned (.bool (isLen (us s))) ∧ Below w.heap.size w w' := by
  have H2 := Lib.hid (fun wx => sameR_c s ⟨#[67, 111, 110, 116, 101, 110, 116, 45, 76, 101, 110, 103, 116, 104]⟩ hs (by decide) wx)
  have HI := Lib.hid (show isLen (us s) = same (us s) (us ⟨#[67, 111, 110, 116, 101, 110, 116, 45, 76, 101, 110, 103, 116, 104]⟩) from rfl)
  obtain ⟨b, hb⟩ : ∃ b, b = same (us s) (us ⟨#[67, 111, 110, 116, 101, 110, 116, 45, 76, 101, 110, 103, 116, 104]⟩) := ⟨_, rfl⟩
  rw [← hb] at H2 HI
  clear hb
  go_enter Tryd.func41, Tryd.ntmps41
  go_wp2_with (go_at_call 44; refine (H2.out _).mono ?_; rintro e wx ⟨rfl, hB⟩)
  go_ret
  exact ⟨ret_bool HI.out.symm, hB⟩

theorem targS_of (s : ByteArray) (h : 0 < s.size) : targS (us s) = (visS (us s) && !((us s).any blank)) := by
  unfold targS
  have e1 : (us s == []) = false := by
    rw [beq_eq_false_iff_ne]
    intro e
    have : s.size = 0 := by rw [← length_us, e]; rfl
    omega
  rw [e1]
  have : ∀ l : List UInt8, (l.all fun c => !blank c) = !l.any blank := by
    intro l; induction l with
    | nil => rfl
    | cons c r ih => simp [List.all_cons, List.any_cons, ih]
  rw [this]; simp
theorem target_c (s : ByteArray) (hs : s.size < 4294967281) (w : World) :
    Calls Tryd.prog 69 #[.string s] w fun e w' => e = .returned (.bool (targS (us s))) ∧ Below w.heap.size w w' := by
  by_cases hz : s.size = 0
  · obtain rfl := eq_empty hz
    go_enter Tryd.func69, Tryd.ntmps69
    go_wp2
    go_ret
    exact ⟨ret_bool (by rfl), Below.refl _ _⟩
  · have h1 := isEmpty_f hz
    have h2 := ne_empty hz
    have hT := targS_of s (by omega)
    have H1 := Lib.hid (fun wx => visible_c s (by omega) wx)
    have H2 := Lib.hid (fun wx => containsAny_c s hs wx)
    have hR : Below w.heap.size w w := Below.refl _ _
    cases hv : visS (us s) <;> cases hb : (us s).any blank
    all_goals
      rw [hv] at H1 hT
      rw [hb] at H2 hT
      have HT := Lib.hid hT
      clear hv hb hT
      go_enter Tryd.func69, Tryd.ntmps69
      go_wp2_with (first | (go_at_call 31; refine (H1.out _).mono ?_; rintro e wx ⟨rfl, rfl⟩) | (go_at_call 76; refine (H2.out _).mono ?_; rintro e wx ⟨rfl, hR⟩))
      go_ret
      exact ⟨ret_bool HT.out.symm, hR⟩

end Go.Proofs.YtgpbnbaegghajaaDoor
