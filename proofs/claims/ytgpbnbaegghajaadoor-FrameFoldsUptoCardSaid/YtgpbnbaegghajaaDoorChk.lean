/-
  frame.Check, rosterref06.Check.
-/
import Derived.Test.YtgpbnbaegghajaaDoorHdr
import Derived.Lib.QuietBelow
namespace Go.Proofs.YtgpbnbaegghajaaDoor
open Go.RowKit Go.Sort

theorem same_belowQ {P : Program} {f : FuncId} {args : Array Value} {w : World} {v : Value} (h : Calls P f args w fun e w' => e = .returned v ∧ w = w') :
    Calls P f args w fun e w' => e = .returned v ∧ Below w.heap.size w w' := h.mono fun _ _ ⟨a, b⟩ => ⟨a, b ▸ Below.refl _ _⟩
theorem drn_belowQ {P : Program} {f : FuncId} {args : Array Value} {w : World} {v : Value} (h : Calls P f args w fun e w' => e = .returned v ∧ Drn w w') :
    Calls P f args w fun e w' => e = .returned v ∧ Below w.heap.size w w' := h.mono fun _ _ ⟨a, b⟩ => ⟨a, b.below⟩
theorem regrownB {W wq : World} (h : ∃ p : Regrown, wq = grow (redrawn W p.d) p.os) : Below W.heap.size W wq := by
  obtain ⟨p, rfl⟩ := h; exact below_regrown W p.d p.os

theorem checkS_first (m : Mg) (h : firstS m = false) : checkS m = 60 := by unfold checkS; rw [if_pos h]
theorem checkS_many (m : Mg) (h : firstS m = true) (h2 : 64 < m.hdrs.length) : checkS m = 4 := by unfold checkS; rw [if_neg (by rw [h]; decide), if_pos h2]
theorem checkS_bad (m : Mg) (h : firstS m = true) (h2 : ¬ 64 < m.hdrs.length) (k : Nat) (hk : k < m.hdrs.length) (hb : badH m.hdrs[k] = true) : checkS m = 61 := by
  unfold checkS; rw [if_neg (by rw [h]; decide), if_neg h2, if_pos]
  exact List.any_eq_true.2 ⟨_, List.getElem_mem hk, hb⟩
theorem checkS_ok (m : Mg) (h : firstS m = true) (h2 : ¬ 64 < m.hdrs.length) (hb : (m.hdrs.take m.hdrs.length).any badH = false) : checkS m = 0 := by
  rw [List.take_length] at hb
  unfold checkS; rw [if_neg (by rw [h]; decide), if_neg h2, if_neg (by rw [hb]; decide)]
theorem badH_next (H : List Hdr) (k : Nat) (h : k < H.length) (hp : (H.take k).any badH = false) (hb : badH H[k] = false) : (H.take (k + 1)).any badH = false := by
  rw [List.take_succ_eq_append_getElem h, List.any_append, hp, List.any_cons, hb]; rfl
theorem badH_cases (h : Hdr) :
    (token h.name = false ∧ badH h = true) ∨ (token h.name = true ∧ ¬ longS h.name = h.name ∧ badH h = true) ∨ (token h.name = true ∧ longS h.name = h.name ∧ isLen h.name = true ∧ badH h = true) ∨
    (token h.name = true ∧ longS h.name = h.name ∧ isLen h.name = false ∧ valS h.value = false ∧ badH h = true) ∨ (token h.name = true ∧ longS h.name = h.name ∧ isLen h.name = false ∧ valS h.value = true ∧ badH h = false) := by
  unfold badH
  cases h1 : token h.name
  · exact .inl ⟨rfl, by simp⟩
  by_cases h2 : longS h.name = h.name
  · cases h3 : isLen h.name
    · cases h4 : valS h.value
      · exact .inr (.inr (.inr (.inl ⟨rfl, h2, rfl, rfl, by simp⟩)))
      · exact .inr (.inr (.inr (.inr ⟨rfl, h2, rfl, rfl, by simp [h2]⟩)))
    · exact .inr (.inr (.inl ⟨rfl, h2, rfl, by simp⟩))
  · exact .inr (.inl ⟨rfl, h2, by simp [h2]⟩)


set_option maxRecDepth 100000 in
set_option maxHeartbeats 6400000 in
theorem check_c (M T R B : ByteArray) (x : Int) (u : Value) (H : List Hdr) (hM : M.size ≤ 4294967280) (hT : T.size ≤ 4294967280) (hR : R.size ≤ 4294967280) (w : World) (hu : RHdrs w u H)
    (hb : ∀ h ∈ H, h.name.length ≤ 140737488355328 ∧ h.value.length ≤ 140737488355328) :
    Calls Tryd.prog 21 #[.agg #[.string M, .string T, .int .i64 x, .string R, u, .string B]] w fun e w' => e = .returned (.int .i64 (checkS ⟨us M, us T, x, us R, H, us B⟩)) ∧ Below w.heap.size w w' := by
  obtain ⟨ao, cap, rfl, hm1, c1⟩ := hu.form
  unfold maxLen at hm1
  have C1 := Lib.hid c1
  have HBD := Lib.hid hb
  have HF := Lib.hid (fun wx => first_c M T R B x (.slice ao H.length cap) H hM hT hR wx)
  have h60 := checkS_first ⟨us M, us T, x, us R, H, us B⟩
  have h4 := checkS_many ⟨us M, us T, x, us R, H, us B⟩
  have h61 := checkS_bad ⟨us M, us T, x, us R, H, us B⟩
  have h0 := checkS_ok ⟨us M, us T, x, us R, H, us B⟩
  clear c1 hu hb
  have hB0 : Below w.heap.size w (w.alloc (.cells #[.string M, .string T, .int .i64 x, .string R, .slice ao H.length cap, .string B] 25)) := (Below.refl _ _).alloc (Nat.le_refl _) _
  obtain ⟨w0, hw0⟩ : ∃ w0, w0 = w.alloc (.cells #[.string M, .string T, .int .i64 x, .string R, .slice ao H.length cap, .string B] 25) := ⟨_, rfl⟩
  have bm : Blk w0 w.heap.size 25 #[.string M, .string T, .int .i64 x, .string R, .slice ao H.length cap, .string B] := by rw [hw0]; exact Blk.new _ _ _
  rw [← hw0] at hB0
  have HW0 := Lib.hid hw0.symm
  clear hw0
  obtain ⟨_, _, _, _, _, _, f0, f1, f2, f3, f4, f5, z2⟩ := bm.g6
  cases hf : firstS ⟨us M, us T, x, us R, H, us B⟩
  · have HE := Lib.hid (h60 hf)
    rw [hf] at HF
    clear h60 h4 h61 h0 hf
    go_enter Tryd.func21, Tryd.ntmps21
    go_wp2_with (go_at_call 50; rw [HW0.out]; refine (HF.out _).mono ?_; rintro e w1 ⟨rfl, hC⟩)
    go_ret
    exact ⟨by rw [HE.out]; rfl, hB0.trans (hC.mono hB0.size)⟩
  · rw [hf] at HF
    by_cases h64 : 64 < H.length
    · have HE := Lib.hid (h4 hf h64)
      have t64 : ((64 : Int) < (H.length : Int)) := by omega
      clear h60 h4 h61 h0 hf
      go_enter Tryd.func21, Tryd.ntmps21
      go_wp2_with (go_at_call 50; rw [HW0.out]; refine (HF.out _).mono ?_; rintro e w1 ⟨rfl, hC⟩; obtain ⟨_, _, _, _, m4, _, _⟩ := (bm.call hC).g6)
      go_ret
      exact ⟨by rw [HE.out]; rfl, hB0.trans (hC.mono hB0.size)⟩
    · have H61 := Lib.hid (h61 hf h64)
      have H0 := Lib.hid (h0 hf h64)
      have t64 : ¬ ((64 : Int) < (H.length : Int)) := by omega
      clear h60 h4 h61 h0 hf
      go_enter Tryd.func21, Tryd.ntmps21
      go_wp2_with (go_at_call 50; rw [HW0.out]; refine (HF.out _).mono ?_; rintro e w1 ⟨rfl, hC⟩; obtain ⟨_, _, _, _, m4, _, _⟩ := (bm.call hC).g6)
      clear m4 f0 f1 f2 f3 f4 f5
      have hB1 : Below w.heap.size w w1 := hB0.trans (hC.mono hB0.size)
      go_loopw [15] (fun i wr => ∃ k : Nat, k ≤ H.length ∧ i = .int .i64 k ∧ Below w.heap.size w wr ∧ (H.take k).any badH = false) (fun i _ => H.length - (intOf i).toNat)
      case atStart => exact ⟨0, Nat.zero_le _, rfl, hB1, rfl⟩
      case round =>
        obtain ⟨k, hk, rfl, hBr, hp⟩ := hrel
        have HP := Lib.hid hp; clear hp
        by_cases hlt : k < H.length
        · obtain ⟨b, off, rfl, hb1, hc1⟩ := C1.out (by omega)
          obtain ⟨hbn, hbv⟩ := HBD.out _ (List.getElem_mem hlt)
          obtain ⟨N, hN⟩ : ∃ N, N = bs H[k].name := ⟨_, rfl⟩
          obtain ⟨V, hV⟩ : ∃ N, N = bs H[k].value := ⟨_, rfl⟩
          have x0 : wr.cell? ⟨b, off + k * 2, none⟩ = some (.string N) := by
            rw [hBr.cell (p := ⟨b, off + k * 2, none⟩) hb1, hN]; exact (hc1 k hlt).1
          have x1 : wr.cell? ⟨b, off + k * 2 + 1, none⟩ = some (.string V) := by
            rw [hBr.cell (p := ⟨b, off + k * 2 + 1, none⟩) hb1, hV]; exact (hc1 k hlt).2
          have hNs : N.size = H[k].name.length := by rw [hN, size_bs]
          have hVs : V.size = H[k].value.length := by rw [hV, size_bs]
          have k0 : (0 : Int) ≤ (k : Int) := by omega
          have W0 : (wr.alloc (.cells #[.string N, .string V] 51)).cell? ⟨wr.heap.size, 0, none⟩ = some (.string N) := boxedCell (heap_alloc_new wr _) 0
          have W1 : (wr.alloc (.cells #[.string N, .string V] 51)).cell? ⟨wr.heap.size, 1, none⟩ = some (.string V) := boxedCell (heap_alloc_new wr _) 1
          have q0 := cell_regrown W0
          have q1 := cell_regrown W1
          have cT := fun d os => Calls.regrown_of (same_belowQ (token_c N (by omega) (grow (redrawn (wr.alloc (.cells #[.string N, .string V] 51)) d) os)))
          have cL := fun d os => Calls.regrown_of (long_c N (by omega) (grow (redrawn (wr.alloc (.cells #[.string N, .string V] 51)) d) os))
          have cI := fun d os => Calls.regrown_of (length_c N (by omega) (grow (redrawn (wr.alloc (.cells #[.string N, .string V] 51)) d) os))
          have cV := fun d os => Calls.regrown_of (same_belowQ (value_c' V (by omega) (grow (redrawn (wr.alloc (.cells #[.string N, .string V] 51)) d) os)))
          have uN : us N = H[k].name := by rw [hN, us_bs]
          have uV : us V = H[k].value := by rw [hV, us_bs]
          have hbad := H61.out k hlt
          have hnext := badH_next H k hlt HP.out
          have hca := badH_cases H[k]
          rw [← uN, ← uV] at hca
          clear W0 W1 hN hV hNs hVs hbn hbv uN uV hc1 hb1
          rcases hca with ⟨h1, hh⟩ | ⟨h1, h2, hh⟩ | ⟨h1, h2, h3, hh⟩ | ⟨h1, h2, h3, h4, hh⟩ | ⟨h1, h2, h3, h4, hh⟩
          · have HE := Lib.hid (hbad hh)
            rw [h1] at cT
            clear h1 hh hbad hnext
            go_wp2; refine wp_region_quiet_below (by kernel_rfl) (by kernel_rfl) ?_; (repeat (first | go_big_quiet_step (first | with_reducible exact cT _ _ | with_reducible exact cL _ _ | with_reducible exact cI _ _ | with_reducible exact cV _ _) | quiet_step (first | with_reducible exact cT _ _ | with_reducible exact cL _ _ | with_reducible exact cI _ _ | with_reducible exact cV _ _))); refine wpQuiet_nil ?_; intro wq hw'; have hBq := regrownB hw'; clear hw'; go_wp2; go_ret; exact ⟨by rw [HE.out]; rfl, hBr.trans ((((Below.refl _ _).alloc (Nat.le_refl _) _).trans (hBq.mono (by rw [World.size_alloc]; omega))).mono hBr.size)⟩
          · have HE := Lib.hid (hbad hh)
            rw [h1] at cT
            obtain ⟨N2, hN2⟩ : ∃ N2, N2 = bs (longS (us N)) := ⟨_, rfl⟩
            have hne : (N2.toList == N.toList) = false := by rw [toList_us, toList_us, hN2, us_bs, beq_eq_false_iff_ne]; exact h2
            rw [← hN2] at cL
            clear h1 h2 hh hbad hnext hN2
            go_wp2; refine wp_region_quiet_below (by kernel_rfl) (by kernel_rfl) ?_; (repeat (first | go_big_quiet_step (first | with_reducible exact cT _ _ | with_reducible exact cL _ _ | with_reducible exact cI _ _ | with_reducible exact cV _ _) | quiet_step (first | with_reducible exact cT _ _ | with_reducible exact cL _ _ | with_reducible exact cI _ _ | with_reducible exact cV _ _))); refine wpQuiet_nil ?_; intro wq hw'; have hBq := regrownB hw'; clear hw'; go_wp2; go_ret; exact ⟨by rw [HE.out]; rfl, hBr.trans ((((Below.refl _ _).alloc (Nat.le_refl _) _).trans (hBq.mono (by rw [World.size_alloc]; omega))).mono hBr.size)⟩
          · have HE := Lib.hid (hbad hh)
            rw [h1] at cT
            rw [h2, bs_us] at cL
            rw [h2, h3] at cI
            clear h1 h2 h3 hh hbad hnext
            go_wp2; refine wp_region_quiet_below (by kernel_rfl) (by kernel_rfl) ?_; (repeat (first | go_big_quiet_step (first | with_reducible exact cT _ _ | with_reducible exact cL _ _ | with_reducible exact cI _ _ | with_reducible exact cV _ _) | quiet_step (first | with_reducible exact cT _ _ | with_reducible exact cL _ _ | with_reducible exact cI _ _ | with_reducible exact cV _ _))); refine wpQuiet_nil ?_; intro wq hw'; have hBq := regrownB hw'; clear hw'; go_wp2; go_ret; exact ⟨by rw [HE.out]; rfl, hBr.trans ((((Below.refl _ _).alloc (Nat.le_refl _) _).trans (hBq.mono (by rw [World.size_alloc]; omega))).mono hBr.size)⟩
          · have HE := Lib.hid (hbad hh)
            rw [h1] at cT
            rw [h2, bs_us] at cL
            rw [h2, h3] at cI
            rw [h4] at cV
            clear h1 h2 h3 h4 hh hbad hnext
            go_wp2; refine wp_region_quiet_below (by kernel_rfl) (by kernel_rfl) ?_; (repeat (first | go_big_quiet_step (first | with_reducible exact cT _ _ | with_reducible exact cL _ _ | with_reducible exact cI _ _ | with_reducible exact cV _ _) | quiet_step (first | with_reducible exact cT _ _ | with_reducible exact cL _ _ | with_reducible exact cI _ _ | with_reducible exact cV _ _))); refine wpQuiet_nil ?_; intro wq hw'; have hBq := regrownB hw'; clear hw'; go_wp2; go_ret; exact ⟨by rw [HE.out]; rfl, hBr.trans ((((Below.refl _ _).alloc (Nat.le_refl _) _).trans (hBq.mono (by rw [World.size_alloc]; omega))).mono hBr.size)⟩
          · have HN := Lib.hid (hnext hh)
            rw [h1] at cT
            rw [h2, bs_us] at cL
            rw [h2, h3] at cI
            rw [h4] at cV
            clear h1 h2 h3 h4 hh hbad hnext
            go_wp2
            refine wp_region_quiet_below (by kernel_rfl) (by kernel_rfl) ?_; (repeat (first | go_big_quiet_step (first | with_reducible exact cT _ _ | with_reducible exact cL _ _ | with_reducible exact cI _ _ | with_reducible exact cV _ _) | quiet_step (first | with_reducible exact cT _ _ | with_reducible exact cL _ _ | with_reducible exact cI _ _ | with_reducible exact cV _ _))); refine wpQuiet_nil ?_; intro wq hw'; have hBq := regrownB hw'; clear hw'
            go_wp2
            go_roundw
            case rel => exact ⟨k + 1, by omega, by go_num, hBr.trans ((((Below.refl _ _).alloc (Nat.le_refl _) _).trans (hBq.mono (by rw [World.size_alloc]; omega))).mono hBr.size), HN.out⟩
            case measure => simp [intOf]; omega
        · have hk' : k = H.length := by omega
          have HE := Lib.hid (H0.out (by rw [← hk']; exact HP.out))
          go_wp2
          go_ret
          exact ⟨by rw [HE.out]; rfl, hBr⟩

set_option maxRecDepth 100000 in
set_option maxHeartbeats 6400000 in
theorem checkR_c (M T R B : ByteArray) (x : Int) (u : Value) (H : List Hdr) (hM : M.size ≤ 4294967280) (hT : T.size ≤ 4294967280) (hR : R.size ≤ 4294967280) (w : World) (hu : RHdrs w u H)
    (hb : ∀ h ∈ H, h.name.length ≤ 140737488355328 ∧ h.value.length ≤ 140737488355328) :
    Calls Tryd.prog 22 #[.agg #[.string M, .string T, .int .i64 x, .string R, u, .string B]] w fun e w' => e = .returned (.int .i64 (checkS ⟨us M, us T, x, us R, H, us B⟩)) ∧ Below w.heap.size w w' := by
  obtain ⟨ao, cap, rfl, hm1, c1⟩ := hu.form
  unfold maxLen at hm1
  have C1 := Lib.hid c1
  have HBD := Lib.hid hb
  have HF := Lib.hid (fun wx => firstR_c M T R B x (.slice ao H.length cap) H hM hT hR wx)
  have h60 := checkS_first ⟨us M, us T, x, us R, H, us B⟩
  have h4 := checkS_many ⟨us M, us T, x, us R, H, us B⟩
  have h61 := checkS_bad ⟨us M, us T, x, us R, H, us B⟩
  have h0 := checkS_ok ⟨us M, us T, x, us R, H, us B⟩
  clear c1 hu hb
  have hB0 : Below w.heap.size w (w.alloc (.cells #[.string M, .string T, .int .i64 x, .string R, .slice ao H.length cap, .string B] 25)) := (Below.refl _ _).alloc (Nat.le_refl _) _
  obtain ⟨w0, hw0⟩ : ∃ w0, w0 = w.alloc (.cells #[.string M, .string T, .int .i64 x, .string R, .slice ao H.length cap, .string B] 25) := ⟨_, rfl⟩
  have bm : Blk w0 w.heap.size 25 #[.string M, .string T, .int .i64 x, .string R, .slice ao H.length cap, .string B] := by rw [hw0]; exact Blk.new _ _ _
  rw [← hw0] at hB0
  have HW0 := Lib.hid hw0.symm
  clear hw0
  obtain ⟨_, _, _, _, _, _, f0, f1, f2, f3, f4, f5, z2⟩ := bm.g6
  cases hf : firstS ⟨us M, us T, x, us R, H, us B⟩
  · have HE := Lib.hid (h60 hf)
    rw [hf] at HF
    clear h60 h4 h61 h0 hf
    go_enter Tryd.func22, Tryd.ntmps22
    go_wp2_with (go_at_call 52; rw [HW0.out]; refine (HF.out _).mono ?_; rintro e w1 ⟨rfl, hC⟩)
    go_ret
    exact ⟨by rw [HE.out]; rfl, hB0.trans (hC.mono hB0.size)⟩
  · rw [hf] at HF
    by_cases h64 : 64 < H.length
    · have HE := Lib.hid (h4 hf h64)
      have t64 : ((64 : Int) < (H.length : Int)) := by omega
      clear h60 h4 h61 h0 hf
      go_enter Tryd.func22, Tryd.ntmps22
      go_wp2_with (go_at_call 52; rw [HW0.out]; refine (HF.out _).mono ?_; rintro e w1 ⟨rfl, hC⟩; obtain ⟨_, _, _, _, m4, _, _⟩ := (bm.call hC).g6)
      go_ret
      exact ⟨by rw [HE.out]; rfl, hB0.trans (hC.mono hB0.size)⟩
    · have H61 := Lib.hid (h61 hf h64)
      have H0 := Lib.hid (h0 hf h64)
      have t64 : ¬ ((64 : Int) < (H.length : Int)) := by omega
      clear h60 h4 h61 h0 hf
      go_enter Tryd.func22, Tryd.ntmps22
      go_wp2_with (go_at_call 52; rw [HW0.out]; refine (HF.out _).mono ?_; rintro e w1 ⟨rfl, hC⟩; obtain ⟨_, _, _, _, m4, _, _⟩ := (bm.call hC).g6)
      have M4 := Lib.hid (fun (wx : World) (h : Below w1.heap.size w1 wx) => (boxedCell ((bm.call hC).call h) 4 : wx.cell? ⟨w.heap.size, 4, none⟩ = some (.slice ao H.length cap)))
      clear m4 f0 f1 f2 f3 f4 f5
      have hB1 : Below w.heap.size w w1 := hB0.trans (hC.mono hB0.size)
      go_loopw [3] (fun i wr => ∃ k : Nat, k ≤ H.length ∧ i = .int .i64 k ∧ Below w1.heap.size w1 wr ∧ (H.take k).any badH = false) (fun i _ => H.length - (intOf i).toNat)
      case atStart => exact ⟨0, Nat.zero_le _, rfl, Below.refl _ _, rfl⟩
      case round =>
        obtain ⟨k, hk, rfl, hBr0, hp⟩ := hrel
        have HP := Lib.hid hp; clear hp
        have m4 := M4.out wr hBr0
        have hBr : Below w.heap.size w wr := hB1.trans (hBr0.mono hB1.size)
        by_cases hlt : k < H.length
        · obtain ⟨b, off, rfl, hb1, hc1⟩ := C1.out (by omega)
          obtain ⟨hbn, hbv⟩ := HBD.out _ (List.getElem_mem hlt)
          obtain ⟨N, hN⟩ : ∃ N, N = bs H[k].name := ⟨_, rfl⟩
          obtain ⟨V, hV⟩ : ∃ N, N = bs H[k].value := ⟨_, rfl⟩
          have x0 : wr.cell? ⟨b, off + k * 2, none⟩ = some (.string N) := by
            rw [hBr.cell (p := ⟨b, off + k * 2, none⟩) hb1, hN]; exact (hc1 k hlt).1
          have x1 : wr.cell? ⟨b, off + k * 2 + 1, none⟩ = some (.string V) := by
            rw [hBr.cell (p := ⟨b, off + k * 2 + 1, none⟩) hb1, hV]; exact (hc1 k hlt).2
          have hNs : N.size = H[k].name.length := by rw [hN, size_bs]
          have hVs : V.size = H[k].value.length := by rw [hV, size_bs]
          have k0 : (0 : Int) ≤ (k : Int) := by omega
          have W0 : (wr.alloc (.cells #[.string N, .string V] 51)).cell? ⟨wr.heap.size, 0, none⟩ = some (.string N) := boxedCell (heap_alloc_new wr _) 0
          have W1 : (wr.alloc (.cells #[.string N, .string V] 51)).cell? ⟨wr.heap.size, 1, none⟩ = some (.string V) := boxedCell (heap_alloc_new wr _) 1
          have q0 := cell_regrown W0
          have q1 := cell_regrown W1
          have cT := fun d os => Calls.regrown_of (same_belowQ (tokenR_c N (by omega) (grow (redrawn (wr.alloc (.cells #[.string N, .string V] 51)) d) os)))
          have cL := fun d os => Calls.regrown_of (longR_c N (by omega) (grow (redrawn (wr.alloc (.cells #[.string N, .string V] 51)) d) os))
          have cI := fun d os => Calls.regrown_of (lengthR_c N (by omega) (grow (redrawn (wr.alloc (.cells #[.string N, .string V] 51)) d) os))
          have cV := fun d os => Calls.regrown_of (same_belowQ (valueR_c' V (by omega) (grow (redrawn (wr.alloc (.cells #[.string N, .string V] 51)) d) os)))
          have uN : us N = H[k].name := by rw [hN, us_bs]
          have uV : us V = H[k].value := by rw [hV, us_bs]
          have hbad := H61.out k hlt
          have hnext := badH_next H k hlt HP.out
          have hca := badH_cases H[k]
          rw [← uN, ← uV] at hca
          clear W0 W1 hN hV hNs hVs hbn hbv uN uV hc1 hb1
          rcases hca with ⟨h1, hh⟩ | ⟨h1, h2, hh⟩ | ⟨h1, h2, h3, hh⟩ | ⟨h1, h2, h3, h4, hh⟩ | ⟨h1, h2, h3, h4, hh⟩
          · have HE := Lib.hid (hbad hh)
            rw [h1] at cT
            clear h1 hh hbad hnext
            go_wp2; refine wp_region_quiet_below (by kernel_rfl) (by kernel_rfl) ?_; (repeat (first | go_big_quiet_step (first | with_reducible exact cT _ _ | with_reducible exact cL _ _ | with_reducible exact cI _ _ | with_reducible exact cV _ _) | quiet_step (first | with_reducible exact cT _ _ | with_reducible exact cL _ _ | with_reducible exact cI _ _ | with_reducible exact cV _ _))); refine wpQuiet_nil ?_; intro wq hw'; have hBq := regrownB hw'; clear hw'; go_wp2; go_ret; exact ⟨by rw [HE.out]; rfl, hBr.trans ((((Below.refl _ _).alloc (Nat.le_refl _) _).trans (hBq.mono (by rw [World.size_alloc]; omega))).mono hBr.size)⟩
          · have HE := Lib.hid (hbad hh)
            rw [h1] at cT
            obtain ⟨N2, hN2⟩ : ∃ N2, N2 = bs (longS (us N)) := ⟨_, rfl⟩
            have hne : (N2.toList == N.toList) = false := by rw [toList_us, toList_us, hN2, us_bs, beq_eq_false_iff_ne]; exact h2
            rw [← hN2] at cL
            clear h1 h2 hh hbad hnext hN2
            go_wp2; refine wp_region_quiet_below (by kernel_rfl) (by kernel_rfl) ?_; (repeat (first | go_big_quiet_step (first | with_reducible exact cT _ _ | with_reducible exact cL _ _ | with_reducible exact cI _ _ | with_reducible exact cV _ _) | quiet_step (first | with_reducible exact cT _ _ | with_reducible exact cL _ _ | with_reducible exact cI _ _ | with_reducible exact cV _ _))); refine wpQuiet_nil ?_; intro wq hw'; have hBq := regrownB hw'; clear hw'; go_wp2; go_ret; exact ⟨by rw [HE.out]; rfl, hBr.trans ((((Below.refl _ _).alloc (Nat.le_refl _) _).trans (hBq.mono (by rw [World.size_alloc]; omega))).mono hBr.size)⟩
          · have HE := Lib.hid (hbad hh)
            rw [h1] at cT
            rw [h2, bs_us] at cL
            rw [h3] at cI
            clear h1 h2 h3 hh hbad hnext
            go_wp2; refine wp_region_quiet_below (by kernel_rfl) (by kernel_rfl) ?_; (repeat (first | go_big_quiet_step (first | with_reducible exact cT _ _ | with_reducible exact cL _ _ | with_reducible exact cI _ _ | with_reducible exact cV _ _) | quiet_step (first | with_reducible exact cT _ _ | with_reducible exact cL _ _ | with_reducible exact cI _ _ | with_reducible exact cV _ _))); refine wpQuiet_nil ?_; intro wq hw'; have hBq := regrownB hw'; clear hw'; go_wp2; go_ret; exact ⟨by rw [HE.out]; rfl, hBr.trans ((((Below.refl _ _).alloc (Nat.le_refl _) _).trans (hBq.mono (by rw [World.size_alloc]; omega))).mono hBr.size)⟩
          · have HE := Lib.hid (hbad hh)
            rw [h1] at cT
            rw [h2, bs_us] at cL
            rw [h3] at cI
            rw [h4] at cV
            clear h1 h2 h3 h4 hh hbad hnext
            go_wp2; refine wp_region_quiet_below (by kernel_rfl) (by kernel_rfl) ?_; (repeat (first | go_big_quiet_step (first | with_reducible exact cT _ _ | with_reducible exact cL _ _ | with_reducible exact cI _ _ | with_reducible exact cV _ _) | quiet_step (first | with_reducible exact cT _ _ | with_reducible exact cL _ _ | with_reducible exact cI _ _ | with_reducible exact cV _ _))); refine wpQuiet_nil ?_; intro wq hw'; have hBq := regrownB hw'; clear hw'; go_wp2; go_ret; exact ⟨by rw [HE.out]; rfl, hBr.trans ((((Below.refl _ _).alloc (Nat.le_refl _) _).trans (hBq.mono (by rw [World.size_alloc]; omega))).mono hBr.size)⟩
          · have HN := Lib.hid (hnext hh)
            rw [h1] at cT
            rw [h2, bs_us] at cL
            rw [h3] at cI
            rw [h4] at cV
            clear h1 h2 h3 h4 hh hbad hnext
            go_wp2
            refine wp_region_quiet_below (by kernel_rfl) (by kernel_rfl) ?_; (repeat (first | go_big_quiet_step (first | with_reducible exact cT _ _ | with_reducible exact cL _ _ | with_reducible exact cI _ _ | with_reducible exact cV _ _) | quiet_step (first | with_reducible exact cT _ _ | with_reducible exact cL _ _ | with_reducible exact cI _ _ | with_reducible exact cV _ _))); refine wpQuiet_nil ?_; intro wq hw'; have hBq := regrownB hw'; clear hw'
            go_wp2
            go_roundw
            case rel => exact ⟨k + 1, by omega, by go_num, hBr0.trans ((((Below.refl _ _).alloc (Nat.le_refl _) _).trans (hBq.mono (by rw [World.size_alloc]; omega))).mono hBr0.size), HN.out⟩
            case measure => simp [intOf]; omega
        · have hk' : k = H.length := by omega
          have HE := Lib.hid (H0.out (by rw [← hk']; exact HP.out))
          go_wp2
          go_ret
          exact ⟨by rw [HE.out]; rfl, hBr⟩

end Go.Proofs.YtgpbnbaegghajaaDoor
