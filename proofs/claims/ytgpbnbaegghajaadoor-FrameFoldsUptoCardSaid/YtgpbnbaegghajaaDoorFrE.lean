/-
  frame.lines: the lines of a head.
-/
import Derived.Test.YtgpbnbaegghajaaDoorFrD
import Derived.Laws.OwnMore
import Derived.Deep.AppendLies
namespace Go.Proofs.YtgpbnbaegghajaaDoor
open Go.RowKit

theorem idx_index : ∀ l : List UInt8, Lib.index l [13, 10] = match idxCR l with | none => -1 | some n => (n : Int)
  | [] => rfl
  | c :: r => by
    have hp : ([13, 10] : List UInt8).isPrefixOf (c :: r) = true ↔ (c.toNat = 13 ∧ r.head? = some 10) := by
      simp only [List.isPrefixOf, Bool.and_eq_true, beq_iff_eq]
      constructor
      · rintro ⟨rfl, h⟩
        refine ⟨rfl, ?_⟩
        cases r with
        | nil => simp [List.isPrefixOf] at h
        | cons d r' => simp [List.isPrefixOf] at h; simp [h]
      · rintro ⟨h1, h2⟩
        refine ⟨(UInt8.toNat_inj.1 h1).symm, ?_⟩
        cases r with
        | nil => cases h2
        | cons d r' => injection h2 with h2; simp [List.isPrefixOf, h2]
    rw [Lib.index, idxCR]
    by_cases h : c.toNat = 13 ∧ r.head? = some 10
    · rw [if_pos h, if_pos (hp.2 h)]; rfl
    · rw [if_neg h, if_neg (fun e => h (hp.1 e)), idx_index r]
      cases idxCR r with
      | none => rfl
      | some n =>
        have hn : (((n : Nat) : Int) == -1) = false := by rw [beq_eq_false_iff_ne]; omega
        show (if ((n : Nat) : Int) == -1 then -1 else ((n : Nat) : Int) + 1) = ((n + 1 : Nat) : Int)
        rw [hn, if_neg (by decide)]; omega
theorem idx_lt : ∀ (l : List UInt8) (n : Nat), idxCR l = some n → n + 2 ≤ l.length
  | [], n, h => by cases h
  | c :: r, n, h => by
    rw [idxCR] at h
    by_cases hc : c.toNat = 13 ∧ r.head? = some 10
    · rw [if_pos hc] at h
      injection h with h
      cases r with
      | nil => cases hc.2
      | cons d r' => simp; omega
    · rw [if_neg hc] at h
      cases hi : idxCR r with
      | none => rw [hi] at h; cases h
      | some k =>
        rw [hi] at h
        injection h with h
        have := idx_lt r k hi
        have h : k + 1 = n := h
        simp; omega

theorem Strs.open_ {w : World} {base : Nat} {e : TypeId} {v : Value} {L : List (List UInt8)} (h : Strs w base e v L) (h0 : 0 < L.length) :
    ∃ g cap, v = .slice (some ⟨g, 0, none⟩) L.length cap ∧ base ≤ g ∧ g < w.heap.size ∧ (∀ j (hj : j < L.length), w.cell? ⟨g, j, none⟩ = some (.string (bs L[j]))) ∧ (∀ j, w.frozen? ⟨g, j, none⟩ = false) ∧
      ∀ j S, Strs (w.setCell ⟨g, j, none⟩ (.string S)) base e v (L.set j (us S)) := by
  obtain ⟨g, cap, rfl, h1, h2⟩ := World.ownsRow.form h h0
  refine ⟨g, cap, rfl, h1, h2, fun j hj => ?_, fun j => World.ownsRow.frozenAt h j, fun j S => ?_⟩
  · rw [World.ownsRow.cellAt h j (by omega)]; simp [hj, sv]
  · have := (World.ownsRow.stored h j (.string S)).1
    unfold Strs
    rw [List.length_set, List.map_set]; unfold sv; rw [bs_us]; exact this
theorem Strs.len {w : World} {base : Nat} {e : TypeId} {v : Value} {L : List (List UInt8)} (h : Strs w base e v L) : ∃ ao cap, v = .slice ao L.length cap := by
  rcases h.2 with ⟨h1, h2⟩ | ⟨g, cap, _, h1, _⟩
  · exact ⟨none, 0, by rw [h1, h2]⟩
  · exact ⟨_, cap, h1⟩
theorem folded_one (t : ByteArray) (h : 0 < t.size) : folded (us t) = blank t[0] := by rw [us_cons t h]; rfl
theorem addLine_fold (L : List (List UInt8)) (t : List UInt8) (h : 2 ≤ L.length) (hf : folded t = true) : addLine L t = L.set (L.length - 1) ((L[L.length - 1]'(by omega)) ++ 32 :: trim t) := by
  unfold addLine
  rw [if_pos ⟨h, hf⟩]
  have h1 : L.getLast?.getD [] = L[L.length - 1]'(by omega) := by
    rw [List.getLast?_eq_getElem?, List.getElem?_eq_getElem (by omega)]; rfl
  have h2 : L = L.dropLast ++ [L[L.length - 1]'(by omega)] := by
    have hne : L ≠ [] := by rintro rfl; simp at h
    have := List.dropLast_concat_getLast hne
    rw [List.getLast_eq_getElem] at this
    exact this.symm
  rw [h1]
  conv => rhs; arg 1; rw [h2]
  rw [List.set_append_right _ _ (by rw [List.length_dropLast]; omega), List.length_dropLast]; simp
theorem addLine_len (L : List (List UInt8)) (t : List UInt8) : (addLine L t).length ≤ L.length + 1 := by
  unfold addLine
  split
  · rw [List.length_append, List.length_dropLast]; simp; try omega
  · simp
theorem trim_length (l : List UInt8) : (trim l).length ≤ l.length := by
  have h : ∀ l : List UInt8, (l.dropWhile blank).length ≤ l.length := fun l => (List.dropWhile_suffix _).length_le
  unfold trim trimR trimL
  rw [List.length_reverse]
  refine Nat.le_trans (h _) ?_
  rw [List.length_reverse]
  exact h _
theorem addLine_bd (L : List (List UInt8)) (t : List UInt8) (k : Nat) (h : ∀ x ∈ L, x.length ≤ k) : ∀ x ∈ addLine L t, x.length ≤ k + t.length + 2 := by
  intro x hx
  unfold addLine at hx
  split at hx
  · rcases List.mem_append.1 hx with hx | hx
    · have := h x (List.dropLast_subset _ hx); omega
    · simp only [List.mem_cons, List.not_mem_nil, or_false] at hx
      subst hx
      have h1 : (L.getLast?.getD []).length ≤ k := by
        cases hl : L.getLast? with
        | none => exact Nat.zero_le _
        | some y => exact h y (List.mem_of_getLast? hl)
      have := trim_length t
      rw [List.length_append, List.length_cons]; omega
  · rcases List.mem_append.1 hx with hx | hx
    · have := h x hx; omega
    · simp only [List.mem_cons, List.not_mem_nil, or_false] at hx
      subst hx; omega

theorem strs_len {w : World} {base : Nat} {e : TypeId} {v : Value} {L : List (List UInt8)} (h : Strs w base e v L) (ty : TypeId) (w' : World) :
    (Builtin.len_ #[38] ty #[v]).run Tryd.prog w' = .ok (goInt L.length) w' := by
  obtain ⟨ao, cap, rfl⟩ := h.len
  exact run_len_slice _ 38 ty ao L.length cap (show Tryd.prog.underlying 38 = some (.slice (Tryd.prog.elem 38)) by kernel_rfl)
theorem nmTr : (Tryd.f29.name == "runtime.NumGoroutine") = false := by kernel_rfl
theorem bdTr : Tryd.f29.body.isNone = false := by kernel_rfl
/-- what the head's parts are in memory -/
def HeadPost (r : Option (List (List UInt8) × List UInt8)) (s : List UInt8) (w : World) (e : Ending) (w' : World) : Prop :=
  ∃ v n, e = .returned (.tuple #[v, .int .i64 n]) ∧ Below w.heap.size w w' ∧ match r with
    | none => n = -1 ∧ v = .slice none 0 0
    | some (L, rest) => RStrs w' v L ∧ ∃ k : Nat, n = k ∧ k ≤ s.length ∧ rest = s.drop k ∧ ∀ x ∈ L, x.length ≤ k

set_option maxHeartbeats 6400000 in
theorem lines_c (s : ByteArray) (hs : s.size ≤ 4294967280) (w : World) (hm : Ml w) :
    Calls Tryd.prog 25 #[.string s] w fun e w' => HeadPost (headGo [] [] (us s)) (us s) w e w' := by
  have HM := Lib.hid hm
  clear hm
  have HX := Lib.hid (fun (k : Nat) (wx : World) (hx : Ml wx) => show Calls Tryd.prog 56 #[.string (s.extract k s.size), .string ⟨#[13, 10]⟩] wx fun e w' => e = .returned (.int .i64 (match idxCR ((us s).drop k) with | none => -1 | some n => (n : Int))) ∧ wx = w' from by
    obtain ⟨m, hmm⟩ := hx
    have hle : (s.extract k s.size).size ≤ s.size := by rw [size_extract _ _ _ (Nat.le_refl _)]; omega
    refine (Tryd.strings_Index (s.extract k s.size) ⟨#[13, 10]⟩ m wx (by omega) hmm).mono ?_
    rintro e w' ⟨rfl, h⟩
    refine ⟨?_, h.symm⟩
    rw [← idx_index, ← us_tail]; rfl)
  go_enter Tryd.func25, Tryd.ntmps25
  go_wp2
  go_loopw [4, 5] (fun v i wr => ∃ (k : Nat) (L : List (List UInt8)), k ≤ s.size ∧ i = .int .i64 k ∧ Strs wr w.heap.size 9 v L ∧ Below w.heap.size w wr ∧ L.length ≤ k ∧ (∀ x ∈ L, x.length ≤ k) ∧ headGo [] [] (us s) = headGo L [] ((us s).drop k)) (fun _ i _ => s.size - (intOf i).toNat)
  case atStart => exact ⟨0, [], Nat.zero_le _, rfl, Strs.nil _ _ _, Below.refl _ _, Nat.le_refl _, fun x h => by simp at h, rfl⟩
  case round =>
    obtain ⟨k, L, hk, rfl, hown, hB, hlk, hbd, hh⟩ := hrel
    have HXk := Lib.hid (fun wx hx => HX.out k wx hx)
    have hh2 := hh.trans (head_idx L _ [])
    have HH := Lib.hid hh2
    clear hh2
    have HBD := Lib.hid hbd
    clear hh hbd
    cases hi : idxCR ((us s).drop k) with
    | none =>
      rw [hi] at HH HXk
      go_wp2_with (go_at_call 56; refine (HXk.out _ (HM.out.below hB)).mono ?_; rintro e wx ⟨rfl, rfl⟩)
      refine bodyPost_ret (v := .tuple #[.slice none 0 0, .int .i64 (-1)]) (by simp [results, Tryd.results25, go_sem]) rfl ?_
      rw [HH.out]
      exact ⟨_, _, rfl, hB, rfl, rfl⟩
    | some n =>
      rw [hi] at HH HXk
      have hn := idx_lt _ n hi
      rw [List.length_drop, length_us] at hn
      clear hi
      have hE : us (s.extract k (k + n)) = ((us s).drop k).take n := by rw [us_extract, show k + n - k = n by omega]
      have zE : (s.extract k (k + n)).size = n := by rw [size_extract _ _ _ (by omega)]; omega
      have w1 : IntKind.i64.wrap ((k : Int) + (n : Int)) = (k : Int) + (n : Int) := IntWalk.i64_in _ (by omega)
      have w2 : IntKind.i64.wrap ((n : Int) + 2) = (n : Int) + 2 := IntWalk.i64_in _ (by omega)
      have w3 : IntKind.i64.wrap ((k : Int) + ((n : Int) + 2)) = (k : Int) + ((n : Int) + 2) := IntWalk.i64_in _ (by omega)
      have e1 : ((k : Int) + (n : Int)).toNat = k + n := by omega
      have q1 : (0 : Int) ≤ (k : Int) := by omega
      have q2 : (k : Int) ≤ (k : Int) + (n : Int) := by omega
      have q3 : (0 : Int) ≤ (k : Int) + (n : Int) := by omega
      have q4 : (k : Int) + (n : Int) ≤ (s.size : Int) := by omega
      have q5 : (k : Int) ≤ (s.size : Int) := by omega
      have q6 : ¬ ((n : Int) < 0) := by omega
      dsimp only at HH HXk
      have hlen := strs_len hown
      have hcd : ((us s).drop k).take n = [] ↔ n = 0 := by
        rw [← List.length_eq_zero_iff, List.length_take, List.length_drop, length_us]; omega
      have hdr : ((us s).drop k).drop (n + 2) = (us s).drop (k + (n + 2)) := by rw [List.drop_drop]
      by_cases hz : n = 0
      · have HH2 := Lib.hid (HH.out.trans (if_pos (by rw [List.nil_append]; exact hcd.2 hz)))
        have t1 : (s.extract k (k + n)).toList.isEmpty = true := by rw [isEmpty_us]; exact decide_eq_true (by omega)
        clear hcd zE hE HH
        have HD := Lib.hid hdr
        clear hdr hz
        go_wp2_with (go_at_call 56; refine (HXk.out _ (HM.out.below hB)).mono ?_; rintro e wx ⟨rfl, rfl⟩)
        refine bodyPost_ret (v := .tuple #[u4, .int .i64 ((k : Int) + ((n : Int) + 2))]) (by simp [results, Tryd.results25, go_sem]) rfl ?_
        rw [HH2.out]
        exact ⟨_, _, rfl, hB, hown.read, k + (n + 2), by omega, by rw [length_us]; omega, HD.out, fun x hx => by have := HBD.out x hx; omega⟩
      · have HH2 := Lib.hid ((HH.out.trans (if_neg (by rw [List.nil_append]; exact fun h => hz (hcd.1 h)))).trans (by rw [List.nil_append, hdr]))
        have pz : 0 < (s.extract k (k + n)).size := by omega
        have t1 : (s.extract k (k + n)).toList.isEmpty = false := isEmpty_f (by omega)
        have t2 : ¬ s.extract k (k + n) = ByteArray.empty := ne_empty (by omega)
        have hfo := folded_one _ pz
        rw [hE] at hfo
        have hAL := addLine_len L (((us s).drop k).take n)
        have hAB := addLine_bd L (((us s).drop k).take n) k HBD.out
        have htl : (((us s).drop k).take n).length = n := by rw [← hE, length_us, zE]
        rw [htl] at hAB
        have HAB := Lib.hid hAB
        have HES := Lib.hid hE
        have HZ := Lib.hid zE
        clear hcd HH hdr hAB hE zE htl
        by_cases h2 : 1 < (L.length : Int)
        · cases hb : blank (s.extract k (k + n))[0]
          · rw [hb] at hfo
            have HA := Lib.hid (addLine_no L _ hfo)
            rw [blank_of] at hb
            clear hfo
            go_wp2_with (first | (go_at_call 56; refine (HXk.out _ (HM.out.below hB)).mono ?_; rintro e wx ⟨rfl, rfl⟩) | (go_at_call 57; refine (class_c _ _).mono ?_; rintro e w' ⟨rfl, rfl⟩) | (at_builtin; refine wpList_appS1 _ HES.out rfl rfl Tryd.underlying38 infoS rfl rfl hown hB (Nat.le_refl _) ?_ ?_; (focus omega); intro v1 w1 ho1 hb1))
            go_roundw
            case rel => exact ⟨k + (n + 2), _, by omega, by go_num, ho1.cast HA.out.symm, hb1, by omega, fun x hx => by have := HAB.out x hx; omega, HH2.out⟩
            case measure => simp [intOf]; omega
          · rw [hb] at hfo
            have h2' : 2 ≤ L.length := by omega
            have hA := addLine_fold L _ h2' hfo
            rw [blank_of] at hb
            clear hfo hlen
            obtain ⟨g, cap, rfl, hbg, hgl, hcl, hfz, hset⟩ := Strs.open_ (w := wr.drew) hown (by omega)
            have x0 := hcl (L.length - 1) (by omega)
            have x1 : IntKind.i64.wrap ((L.length : Int) - 1) = (L.length : Int) - 1 := IntWalk.i64_in _ (by omega)
            have x2 : ((L.length : Int) - 1).toNat = L.length - 1 := by omega
            have x3 : (0 : Int) ≤ (L.length : Int) - 1 := by omega
            have x4 : (L.length : Int) - 1 < (L.length : Int) := by omega
            have x5 := hfz (L.length - 1)
            have x9 : (1 : Int) ≤ (L.length : Int) := by omega
            have x6 : L[L.length - 1].length ≤ k := HBD.out _ (List.getElem_mem _)
            have HT := Lib.hid (fun wx => trim_c (s.extract k (k + n)) (by rw [HZ.out]; omega) wx)
            rw [HES.out] at HT
            have x7 := trim_length (((us s).drop k).take n)
            have x8 : (((us s).drop k).take n).length ≤ n := by rw [List.length_take]; omega
            obtain ⟨A, hA0⟩ : ∃ A, A = bs L[L.length - 1] := ⟨_, rfl⟩
            have zA : A.size ≤ k := by rw [hA0, size_bs]; exact x6
            have uA : L[L.length - 1] = us A := by rw [hA0, us_bs]
            obtain ⟨D, hD0⟩ : ∃ D, D = bs (trim (((us s).drop k).take n)) := ⟨_, rfl⟩
            have zD : D.size ≤ n := by rw [hD0, size_bs]; omega
            have uD : trim (((us s).drop k).take n) = us D := by rw [hD0, us_bs]
            rw [← hA0] at x0
            rw [← hD0] at HT
            rw [uA, uD] at hA
            have HA := Lib.hid hA
            have HSET := Lib.hid (hset (L.length - 1))
            have z1 : (⟨#[32]⟩ : ByteArray).size = 1 := rfl
            have y1 : ¬ (9223372036854775807 < 1 + D.size) := by omega
            have y2 : ¬ (9223372036854775807 < A.size + (1 + D.size)) := by omega
            clear hA hset hcl hfz x6 x7 x8 hA0 hD0 uA uD
            go_wp2_with (first | (go_at_call 56; refine (HXk.out _ (HM.out.below hB)).mono ?_; rintro e wx ⟨rfl, rfl⟩) | (go_at_call 57; refine (class_c _ _).mono ?_; rintro e w' ⟨rfl, rfl⟩))
            go_region_law (refine step_call1 (v0 := .string (s.extract k (k + n))) (v := .string D) rfl rfl Tryd.func29 nmTr bdTr ?_ ?_ ?_; (focus rfl); (focus (exact HT.out _)))
            all_goals
              clear w1 w2 w3 x1
              go_wp2
              go_roundw
              case rel =>
                refine ⟨k + (n + 2), _, by omega, by go_num, (show Strs _ w.heap.size 9 _ (L.set (L.length - 1) (us (A ++ (⟨#[32]⟩ ++ D)))) from HSET.out (A ++ (⟨#[32]⟩ ++ D))).cast (by rw [HA.out, us_append, us_append]; rfl), (hB.setCell hbg _).drew, by omega, fun x hx => by have := HAB.out x hx; omega, HH2.out⟩
              case measure => simp [intOf]; omega
        · have HA := Lib.hid (show addLine L (((us s).drop k).take n) = L ++ [((us s).drop k).take n] by unfold addLine; rw [if_neg]; rintro ⟨h, _⟩; omega)
          clear hfo
          go_wp2_with (first | (go_at_call 56; refine (HXk.out _ (HM.out.below hB)).mono ?_; rintro e wx ⟨rfl, rfl⟩) | (at_builtin; refine wpList_appS1 _ HES.out rfl rfl Tryd.underlying38 infoS rfl rfl hown hB (Nat.le_refl _) ?_ ?_; (focus omega); intro v1 w1 ho1 hb1))
          go_roundw
          case rel => exact ⟨k + (n + 2), _, by omega, by go_num, ho1.cast HA.out.symm, hb1, by omega, fun x hx => by have := HAB.out x hx; omega, HH2.out⟩
          case measure => simp [intOf]; omega

end Go.Proofs.YtgpbnbaegghajaaDoor
