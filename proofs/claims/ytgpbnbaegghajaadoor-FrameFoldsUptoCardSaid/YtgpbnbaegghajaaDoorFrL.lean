/-
  rosterref06.head.
-/
import Derived.Test.YtgpbnbaegghajaaDoorFrK
namespace Go.Proofs.YtgpbnbaegghajaaDoor
open Go.RowKit

theorem nmTrR : (Tryd.f38.name == "runtime.NumGoroutine") = false := by kernel_rfl
theorem bdTrR : Tryd.f38.body.isNone = false := by kernel_rfl

set_option maxHeartbeats 6400000 in
theorem headR_c (s : ByteArray) (hs : s.size ≤ 4294967280) (w : World) :
    Calls Tryd.prog 34 #[.string s] w fun e w' => HeadPost (headGo [] [] (us s)) (us s) w e w' := by
  have HX := Lib.hid (fun (k : Nat) (hk : k ≤ s.size) (wx : World) => line_c s hs k hk wx)
  go_enter Tryd.func34, Tryd.ntmps34
  go_wp2
  go_loopw [4, 5] (fun v i wr => ∃ (k : Nat) (L : List (List UInt8)), k ≤ s.size ∧ i = .int .i64 k ∧ Strs wr w.heap.size 9 v L ∧ Below w.heap.size w wr ∧ L.length ≤ k ∧ (∀ x ∈ L, x.length ≤ k) ∧ headGo [] [] (us s) = headGo L [] ((us s).drop k)) (fun _ i _ => s.size - (intOf i).toNat)
  case atStart => exact ⟨0, [], Nat.zero_le _, rfl, Strs.nil _ _ _, Below.refl _ _, Nat.le_refl _, fun x h => by simp at h, rfl⟩
  case round =>
    obtain ⟨k, L, hk, rfl, hown, hB, hlk, hbd, hh⟩ := hrel
    have HXk := Lib.hid (fun wx => HX.out k hk wx)
    have q0 : (0 : Int) ≤ (k : Int) := by omega
    have hh2 := hh.trans (head_idx L _ [])
    have HH := Lib.hid hh2
    clear hh2
    have HBD := Lib.hid hbd
    clear hh hbd
    cases hi : idxCR ((us s).drop k) with
    | none =>
      rw [hi] at HH HXk
      unfold linePost at HXk
      dsimp only at HXk
      go_wp2_with (go_at_call 64; refine (HXk.out _).mono ?_; rintro e wx ⟨rfl, rfl⟩)
      refine bodyPost_ret (v := .tuple #[.slice none 0 0, .int .i64 (-1)]) (by simp [results, Tryd.results34, go_sem]) rfl ?_
      rw [HH.out]
      exact ⟨_, _, rfl, hB, rfl, rfl⟩
    | some n =>
      rw [hi] at HH HXk
      unfold linePost at HXk
      have hn := idx_lt _ n hi
      obtain ⟨m, hmm⟩ : ∃ m, m = k + n + 2 := ⟨_, rfl⟩
      dsimp only at HXk
      rw [← hmm] at HXk
      rw [List.length_drop, length_us] at hn
      clear hi
      have hE : us (s.extract k (k + n)) = ((us s).drop k).take n := by rw [us_extract, show k + n - k = n by omega]
      have zE : (s.extract k (k + n)).size = n := by rw [size_extract _ _ _ (by omega)]; omega
      have e1 : ((k : Int) + (n : Int)).toNat = k + n := by omega
      have q1 : (0 : Int) ≤ (k : Int) := by omega
      have q2 : (k : Int) ≤ (k : Int) + (n : Int) := by omega
      have q3 : (0 : Int) ≤ (k : Int) + (n : Int) := by omega
      have q4 : (k : Int) + (n : Int) ≤ (s.size : Int) := by omega
      have q5 : (k : Int) ≤ (s.size : Int) := by omega
      have q6 : ¬ ((m : Int) < 0) := by omega
      dsimp only at HH
      have hlen := strs_len hown
      have hcd : ((us s).drop k).take n = [] ↔ n = 0 := by
        rw [← List.length_eq_zero_iff, List.length_take, List.length_drop, length_us]; omega
      have hdr : ((us s).drop k).drop (n + 2) = (us s).drop m := by rw [List.drop_drop, hmm]; congr 1
      have hm1 : k + n + 2 ≤ m := by omega
      have hm2 : m ≤ k + n + 2 := by omega
      clear hmm
      by_cases hz : n = 0
      · have HH2 := Lib.hid (HH.out.trans (if_pos (by rw [List.nil_append]; exact hcd.2 hz)))
        have t1 : (s.extract k (k + n)).toList.isEmpty = true := by rw [isEmpty_us]; exact decide_eq_true (by omega)
        clear hcd zE hE HH
        have HD := Lib.hid hdr
        clear hdr hz
        go_wp2_with (go_at_call 64; refine (HXk.out _).mono ?_; rintro e wx ⟨rfl, rfl⟩)
        refine bodyPost_ret (v := .tuple #[u4, .int .i64 (m : Int)]) (by simp [results, Tryd.results34, go_sem]) rfl ?_
        rw [HH2.out]
        exact ⟨_, _, rfl, hB, hown.read, m, by omega, by rw [length_us]; omega, HD.out, fun x hx => by have := HBD.out x hx; omega⟩
      · have HH2 := Lib.hid ((HH.out.trans (if_neg (by rw [List.nil_append]; exact fun h => hz (hcd.1 h)))).trans (by rw [List.nil_append, hdr]))
        have pz : 0 < (s.extract k (k + n)).size := by omega
        have t1 : (s.extract k (k + n)).toList.isEmpty = false := isEmpty_f (by omega)
        have t2 : ¬ s.extract k (k + n) = ByteArray.empty := ne_empty (by omega)
        have hfo := folded_one _ pz
        rw [hE] at hfo
        have hAL := addLine_len L (((us s).drop k).take n)
        have hAB := addLine_bd L (((us s).drop k).take n) k HBD.out
        have htl : (((us s).drop k).take n).length = n := by rw [← hE, length_us, zE]
        rw [htl] at hAB
        have HAB := Lib.hid hAB
        have HES := Lib.hid hE
        have HZ := Lib.hid zE
        clear hcd HH hdr hAB hE zE htl
        by_cases h2 : 2 ≤ (L.length : Int)
        · cases hb : blank (s.extract k (k + n))[0]
          · rw [hb] at hfo
            have HA := Lib.hid (addLine_no L _ hfo)
            rw [blank_of] at hb
            clear hfo
            go_wp2_with (first | (go_at_call 64; refine (HXk.out _).mono ?_; rintro e wx ⟨rfl, rfl⟩) | (go_at_call 65; refine (classR_c _ _).mono ?_; rintro e w' ⟨rfl, rfl⟩) | (at_builtin; refine wpList_appS1 _ HES.out rfl rfl Tryd.underlying38 infoS rfl rfl hown hB (Nat.le_refl _) ?_ ?_; (focus omega); intro v1 w1 ho1 hb1))
            go_roundw
            case rel => exact ⟨m, _, by omega, by first | rfl | go_num, ho1.cast HA.out.symm, hb1, by omega, fun x hx => by have := HAB.out x hx; omega, HH2.out⟩
            case measure => simp [intOf]; omega
          · rw [hb] at hfo
            have h2' : 2 ≤ L.length := by omega
            have hA := addLine_fold L _ h2' hfo
            rw [blank_of] at hb
            clear hfo hlen
            obtain ⟨g, cap, rfl, hbg, hgl, hcl, hfz, hset⟩ := Strs.open_ (w := wr.drew) hown (by omega)
            have x0 := hcl (L.length - 1) (by omega)
            have x1 : IntKind.i64.wrap ((L.length : Int) - 1) = (L.length : Int) - 1 := IntWalk.i64_in _ (by omega)
            have x2 : ((L.length : Int) - 1).toNat = L.length - 1 := by omega
            have x3 : (0 : Int) ≤ (L.length : Int) - 1 := by omega
            have x4 : (L.length : Int) - 1 < (L.length : Int) := by omega
            have x5 := hfz (L.length - 1)
            have x9 : (1 : Int) ≤ (L.length : Int) := by omega
            have x6 : L[L.length - 1].length ≤ k := HBD.out _ (List.getElem_mem _)
            have HT := Lib.hid (fun wx => trimR_c (s.extract k (k + n)) (by rw [HZ.out]; omega) wx)
            rw [HES.out] at HT
            have x7 := trim_length (((us s).drop k).take n)
            have x8 : (((us s).drop k).take n).length ≤ n := by rw [List.length_take]; omega
            obtain ⟨A, hA0⟩ : ∃ A, A = bs L[L.length - 1] := ⟨_, rfl⟩
            have zA : A.size ≤ k := by rw [hA0, size_bs]; exact x6
            have uA : L[L.length - 1] = us A := by rw [hA0, us_bs]
            obtain ⟨D, hD0⟩ : ∃ D, D = bs (trim (((us s).drop k).take n)) := ⟨_, rfl⟩
            have zD : D.size ≤ n := by rw [hD0, size_bs]; omega
            have uD : trim (((us s).drop k).take n) = us D := by rw [hD0, us_bs]
            rw [← hA0] at x0
            rw [← hD0] at HT
            rw [uA, uD] at hA
            have HA := Lib.hid hA
            have HSET := Lib.hid (hset (L.length - 1))
            have z1 : (⟨#[32]⟩ : ByteArray).size = 1 := rfl
            have y1 : ¬ (9223372036854775807 < 1 + D.size) := by omega
            have y2 : ¬ (9223372036854775807 < A.size + 1 + D.size) := by omega
            have y3 : ¬ (9223372036854775807 < A.size + 1) := by omega
            clear hA hset hcl hfz x6 x7 x8 hA0 hD0 uA uD
            go_wp2_with (first | (go_at_call 64; refine (HXk.out _).mono ?_; rintro e wx ⟨rfl, rfl⟩) | (go_at_call 65; refine (classR_c _ _).mono ?_; rintro e w' ⟨rfl, rfl⟩))
            refine wp_region_any (by kernel_rfl) ?_
            try (change wpAny _ _ _ _ _ _ _ (World.drew _))
            first | (refine wpAny_take (i := 0) (v := undef) rfl (by kernel_rfl) (by kernel_rfl) (by kernel_rfl) (fun _ _ _ h => h) (Or.inr ⟨by rfl, rfl⟩) ?_) | (refine wpAny_take (i := 0) (v := ?_) rfl (by kernel_rfl) (by kernel_rfl) (by kernel_rfl) (fun _ _ _ h => h) ?_ ?_; rotate_left; focus (refine Or.inl ⟨by rfl, ?_⟩; intro _; go_simp; first | done | with_reducible rfl))
            try go_simp
            first | (refine wpAny_take (i := 1) (v := undef) rfl (by kernel_rfl) (by kernel_rfl) (by kernel_rfl) (fun _ _ _ h => h) (Or.inr ⟨by rfl, rfl⟩) ?_) | (refine wpAny_take (i := 1) (v := ?_) rfl (by kernel_rfl) (by kernel_rfl) (by kernel_rfl) (fun _ _ _ h => h) ?_ ?_; rotate_left; focus (refine Or.inl ⟨by rfl, ?_⟩; intro _; go_simp; first | done | with_reducible rfl))
            try go_simp
            first | (refine wpAny_take (i := 2) (v := undef) rfl (by kernel_rfl) (by kernel_rfl) (by kernel_rfl) (fun _ _ _ h => h) (Or.inr ⟨by rfl, rfl⟩) ?_) | (refine wpAny_take (i := 2) (v := ?_) rfl (by kernel_rfl) (by kernel_rfl) (by kernel_rfl) (fun _ _ _ h => h) ?_ ?_; rotate_left; focus (refine Or.inl ⟨by rfl, ?_⟩; intro _; go_simp; first | done | with_reducible rfl))
            try go_simp
            first | (refine wpAny_take (i := 3) (v := undef) rfl (by kernel_rfl) (by kernel_rfl) (by kernel_rfl) (fun _ _ _ h => h) (Or.inr ⟨by rfl, rfl⟩) ?_) | (refine wpAny_take (i := 3) (v := ?_) rfl (by kernel_rfl) (by kernel_rfl) (by kernel_rfl) (fun _ _ _ h => h) ?_ ?_; rotate_left; focus (refine Or.inl ⟨by rfl, ?_⟩; intro _; go_simp; first | done | with_reducible rfl))
            try go_simp
            first | (refine wpAny_take (i := 4) (v := undef) rfl (by kernel_rfl) (by kernel_rfl) (by kernel_rfl) (fun _ _ _ h => h) (Or.inr ⟨by rfl, rfl⟩) ?_) | (refine wpAny_take (i := 4) (v := ?_) rfl (by kernel_rfl) (by kernel_rfl) (by kernel_rfl) (fun _ _ _ h => h) ?_ ?_; rotate_left; focus (refine Or.inl ⟨by rfl, ?_⟩; intro _; go_simp; first | done | with_reducible rfl))
            try go_simp
            first | (refine wpAny_take (i := 5) (v := undef) rfl (by kernel_rfl) (by kernel_rfl) (by kernel_rfl) (fun _ _ _ h => h) (Or.inr ⟨by rfl, rfl⟩) ?_) | (refine wpAny_take (i := 5) (v := ?_) rfl (by kernel_rfl) (by kernel_rfl) (by kernel_rfl) (fun _ _ _ h => h) ?_ ?_; rotate_left; focus (refine Or.inl ⟨by rfl, ?_⟩; intro _; go_simp; first | done | with_reducible rfl))
            try go_simp
            first | (refine wpAny_take (i := 6) (v := undef) rfl (by kernel_rfl) (by kernel_rfl) (by kernel_rfl) (fun _ _ _ h => h) (Or.inr ⟨by rfl, rfl⟩) ?_) | (refine wpAny_take (i := 6) (v := ?_) rfl (by kernel_rfl) (by kernel_rfl) (by kernel_rfl) (fun _ _ _ h => h) ?_ ?_; rotate_left; focus (refine Or.inl ⟨by rfl, ?_⟩; intro _; go_simp; first | done | with_reducible rfl))
            try go_simp
            first | (refine wpAny_take (i := 7) (v := undef) rfl (by kernel_rfl) (by kernel_rfl) (by kernel_rfl) (fun _ _ _ h => h) (Or.inr ⟨by rfl, rfl⟩) ?_) | (refine wpAny_take (i := 7) (v := ?_) rfl (by kernel_rfl) (by kernel_rfl) (by kernel_rfl) (fun _ _ _ h => h) ?_ ?_; rotate_left; focus (refine Or.inl ⟨by rfl, ?_⟩; intro _; go_simp; first | done | with_reducible rfl))
            try go_simp
            first | (refine wpAny_take (i := 8) (v := undef) rfl (by kernel_rfl) (by kernel_rfl) (by kernel_rfl) (fun _ _ _ h => h) (Or.inr ⟨by rfl, rfl⟩) ?_) | (refine wpAny_take (i := 8) (v := ?_) rfl (by kernel_rfl) (by kernel_rfl) (by kernel_rfl) (fun _ _ _ h => h) ?_ ?_; rotate_left; focus (refine Or.inl ⟨by rfl, ?_⟩; intro _; go_simp; first | done | with_reducible rfl))
            try go_simp
            first | (refine wpAny_take (i := 11) (v := undef) rfl (by kernel_rfl) (by kernel_rfl) (by kernel_rfl) (fun _ _ _ h => h) (Or.inr ⟨by rfl, rfl⟩) ?_) | (refine wpAny_take (i := 11) (v := ?_) rfl (by kernel_rfl) (by kernel_rfl) (by kernel_rfl) (fun _ _ _ h => h) ?_ ?_; rotate_left; focus (refine Or.inl ⟨by rfl, ?_⟩; intro _; go_simp; first | done | with_reducible rfl))
            try go_simp
            refine wpAny_ready (rs := [9, 12]) (by kernel_rfl) (by simp) ?_
            refine AllReady.cons rfl (fun K hK => ?_) ?_
            ·
              go_simp
              refine hK _ _ ?_; clear hK K
              first | (refine wpAny_take (i := 10) (v := undef) rfl (by kernel_rfl) (by kernel_rfl) (by kernel_rfl) (fun _ _ _ h => h) (Or.inr ⟨by rfl, rfl⟩) ?_) | (refine wpAny_take (i := 10) (v := ?_) rfl (by kernel_rfl) (by kernel_rfl) (by kernel_rfl) (fun _ _ _ h => h) ?_ ?_; rotate_left; focus (refine Or.inl ⟨by rfl, ?_⟩; intro _; go_simp; first | done | with_reducible rfl))
              try go_simp
              refine wpAny_ready (rs := [12]) (by kernel_rfl) (by simp) ?_
              refine AllReady.cons rfl (fun K hK => ?_) ?_
              ·
                refine step_w1 rfl rfl Tryd.func38 nmTrR bdTrR rfl (HT.out _) ?_
                try go_simp
                refine hK _ _ ?_; clear hK K
                first | (refine wpAny_take (i := 13) (v := undef) rfl (by kernel_rfl) (by kernel_rfl) (by kernel_rfl) (fun _ _ _ h => h) (Or.inr ⟨by rfl, rfl⟩) ?_) | (refine wpAny_take (i := 13) (v := ?_) rfl (by kernel_rfl) (by kernel_rfl) (by kernel_rfl) (fun _ _ _ h => h) ?_ ?_; rotate_left; focus (refine Or.inl ⟨by rfl, ?_⟩; intro _; go_simp; first | done | with_reducible rfl))
                try go_simp
                first | (refine wpAny_take (i := 14) (v := undef) rfl (by kernel_rfl) (by kernel_rfl) (by kernel_rfl) (fun _ _ _ h => h) (Or.inr ⟨by rfl, rfl⟩) ?_) | (refine wpAny_take (i := 14) (v := ?_) rfl (by kernel_rfl) (by kernel_rfl) (by kernel_rfl) (fun _ _ _ h => h) ?_ ?_; rotate_left; focus (refine Or.inl ⟨by rfl, ?_⟩; intro _; go_simp; first | done | with_reducible rfl))
                try go_simp
                refine wpAny_ready (rs := [15]) (by kernel_rfl) (by simp) ?_
                refine AllReady.cons rfl (fun K hK => ?_) ?_
                ·
                  go_simp
                  refine hK _ _ ?_; clear hK K
                  refine wpAny_done (by kernel_rfl) ?_ _
                  clear x1
                  go_wp2
                  go_roundw
                  case rel =>
                    refine ⟨m, _, by omega, by first | rfl | go_num, (show Strs _ w.heap.size 9 _ (L.set (L.length - 1) (us ((A ++ ⟨#[32]⟩) ++ D))) from HSET.out ((A ++ ⟨#[32]⟩) ++ D)).cast (by rw [HA.out, us_append, us_append]; simp [us]), (hB.setCell hbg _).drew, by omega, fun x hx => by have := HAB.out x hx; omega, HH2.out⟩
                  case measure => simp [intOf]; omega
                exact AllReady.nil
              exact AllReady.nil
            refine AllReady.cons rfl (fun K hK => ?_) ?_
            ·
              refine step_w1 rfl rfl Tryd.func38 nmTrR bdTrR rfl (HT.out _) ?_
              try go_simp
              refine hK _ _ ?_; clear hK K
              refine wpAny_ready (rs := [9]) (by kernel_rfl) (by simp) ?_
              refine AllReady.cons rfl (fun K hK => ?_) ?_
              ·
                go_simp
                refine hK _ _ ?_; clear hK K
                first | (refine wpAny_take (i := 10) (v := undef) rfl (by kernel_rfl) (by kernel_rfl) (by kernel_rfl) (fun _ _ _ h => h) (Or.inr ⟨by rfl, rfl⟩) ?_) | (refine wpAny_take (i := 10) (v := ?_) rfl (by kernel_rfl) (by kernel_rfl) (by kernel_rfl) (fun _ _ _ h => h) ?_ ?_; rotate_left; focus (refine Or.inl ⟨by rfl, ?_⟩; intro _; go_simp; first | done | with_reducible rfl))
                try go_simp
                first | (refine wpAny_take (i := 13) (v := undef) rfl (by kernel_rfl) (by kernel_rfl) (by kernel_rfl) (fun _ _ _ h => h) (Or.inr ⟨by rfl, rfl⟩) ?_) | (refine wpAny_take (i := 13) (v := ?_) rfl (by kernel_rfl) (by kernel_rfl) (by kernel_rfl) (fun _ _ _ h => h) ?_ ?_; rotate_left; focus (refine Or.inl ⟨by rfl, ?_⟩; intro _; go_simp; first | done | with_reducible rfl))
                try go_simp
                first | (refine wpAny_take (i := 14) (v := undef) rfl (by kernel_rfl) (by kernel_rfl) (by kernel_rfl) (fun _ _ _ h => h) (Or.inr ⟨by rfl, rfl⟩) ?_) | (refine wpAny_take (i := 14) (v := ?_) rfl (by kernel_rfl) (by kernel_rfl) (by kernel_rfl) (fun _ _ _ h => h) ?_ ?_; rotate_left; focus (refine Or.inl ⟨by rfl, ?_⟩; intro _; go_simp; first | done | with_reducible rfl))
                try go_simp
                refine wpAny_ready (rs := [15]) (by kernel_rfl) (by simp) ?_
                refine AllReady.cons rfl (fun K hK => ?_) ?_
                ·
                  go_simp
                  refine hK _ _ ?_; clear hK K
                  refine wpAny_done (by kernel_rfl) ?_ _
                  clear x1
                  go_wp2
                  go_roundw
                  case rel =>
                    refine ⟨m, _, by omega, by first | rfl | go_num, (show Strs _ w.heap.size 9 _ (L.set (L.length - 1) (us ((A ++ ⟨#[32]⟩) ++ D))) from HSET.out ((A ++ ⟨#[32]⟩) ++ D)).cast (by rw [HA.out, us_append, us_append]; simp [us]), (hB.setCell hbg _).drew, by omega, fun x hx => by have := HAB.out x hx; omega, HH2.out⟩
                  case measure => simp [intOf]; omega
                exact AllReady.nil
              exact AllReady.nil
            exact AllReady.nil
        · have HA := Lib.hid (show addLine L (((us s).drop k).take n) = L ++ [((us s).drop k).take n] by unfold addLine; rw [if_neg]; rintro ⟨h, _⟩; omega)
          clear hfo
          go_wp2_with (first | (go_at_call 64; refine (HXk.out _).mono ?_; rintro e wx ⟨rfl, rfl⟩) | (at_builtin; refine wpList_appS1 _ HES.out rfl rfl Tryd.underlying38 infoS rfl rfl hown hB (Nat.le_refl _) ?_ ?_; (focus omega); intro v1 w1 ho1 hb1))
          go_roundw
          case rel => exact ⟨m, _, by omega, by first | rfl | go_num, ho1.cast HA.out.symm, hb1, by omega, fun x hx => by have := HAB.out x hx; omega, HH2.out⟩
          case measure => simp [intOf]; omega

end Go.Proofs.YtgpbnbaegghajaaDoor
