/-
  The law HeadBack: the walk.
-/
import Derived.Test.YteiafgoigfehgaaDoorLawOnce
namespace Go.Proofs.YteiafgoigfehgaaDoor
open Go.RowKit Go.Sort

theorem isS_self (n : List UInt8) (F : List Prm) : isS n F n F = true := by unfold isS; simp
theorem cseq_ok (n : Int) (m : List UInt8) (h : (cseqS n m).2 = 0) : 0 ≤ n ∧ n ≤ 2147483647 ∧ token m = true ∧ cseqS n m = (digits n ++ 32 :: m, 0) := by
  unfold cseqS at h ⊢
  by_cases hb : n < 0 ∨ 2147483647 < n ∨ token m = false
  · rw [if_pos hb] at h; exact absurd h (by decide)
  · rw [if_neg hb]
    refine ⟨?_, ?_, ?_, rfl⟩
    · by_cases hq : n < 0
      · exact absurd (.inl hq) hb
      · omega
    · by_cases hq : 2147483647 < n
      · exact absurd (.inr (.inl hq)) hb
      · omega
    · cases ht : token m
      · exact absurd (.inr (.inr ht)) hb
      · rfl
theorem print_ok (n : List UInt8) (F : List Prm) (h : (printS n F).2 = 0) : token n = true ∧ (textS F).2 = 0 := by
  unfold printS at h
  by_cases hb : token n = false ∨ (textS F).2 ≠ 0
  · rw [if_pos hb] at h; exact absurd h (by decide)
  · constructor
    · cases ht : token n
      · exact absurd (.inl ht) hb
      · rfl
    · by_cases hq : (textS F).2 = 0
      · exact hq
      · exact absurd (.inr hq) hb

set_option maxRecDepth 100000 in
set_option maxHeartbeats 12800000 in
theorem headBack_walk (n : Int) (n0 : -9223372036854775808 ≤ n) (n1 : n ≤ 9223372036854775807) (m : ByteArray) (hms : m.size ≤ 1048576) (N : ByteArray) (u : Value) (F : List Prm) (hN : N.size ≤ 1048576)
    (SN : ByteArray) (hSN : SN.size ≤ 1048576) (x : Int) (x0 : -9223372036854775808 ≤ x) (x1 : x ≤ 9223372036854775807) (SR : ByteArray) (hSR : SR.size ≤ 1048576) (w : World) (hm : Ml w)
    (hu : RPrms w u F) (hF : ∀ p ∈ F, p.name.length ≤ 1048576 ∧ p.value.length ≤ 1048576) :
    Calls Tryd.prog 10 #[.int .i64 n, .string m, .agg #[.string N, u], .agg #[.string SN, .int .i64 x, .string SR]] w fun e w' => e = .returned (.bool true) ∧ Below w.heap.size w w' := by
  have HM := Lib.hid hm
  have HU := Lib.hid hu
  obtain ⟨ao, cap, rfl, hml1, _⟩ := hu.form
  unfold maxLen at hml1
  have HFB := Lib.hid (fun p hp => (⟨Nat.le_trans (hF p hp).1 (by decide), Nat.le_trans (hF p hp).2 (by decide)⟩ : p.name.length ≤ 4294967280 ∧ p.value.length ≤ 4294967280))
  clear hm hu hF
  have HW := Lib.hid (fun wx hx => awake_c wx hx)
  -- the sequence number
  have HC := Lib.hid (fun wx => cseq_c n n0 n1 m (by omega) wx)
  have H1 : Hid ((cseqS n (us m)).2 = 0 → ∀ wx, Ml wx → Calls Tryd.prog 22 #[.string (bs (cseqS n (us m)).1)] wx fun e w' => e = .returned (.tuple #[.int .i64 n, .string m, .int .i64 0]) ∧ Below wx.heap.size wx w') := by
    intro h wx hx
    obtain ⟨a1, a2, a3, a4⟩ := cseq_ok n (us m) h
    have hl := token_len _ a3
    have hd := digits_len n
    have := seq_c (bs (cseqS n (us m)).1) (by rw [size_bs, a4]; show (digits n ++ 32 :: us m).length ≤ _; rw [List.length_append, List.length_cons]; omega) wx hx
    unfold SeqPost at this
    rw [us_bs, seq_same, a4, seq_back n (us m) a1 a2 a3] at this
    rw [a4]
    simpa using this
  obtain ⟨c, hc⟩ : ∃ c, c = cseqS n (us m) := ⟨_, rfl⟩
  rw [← hc] at HC H1
  clear hc
  obtain ⟨cs, ce⟩ := c
  dsimp only at HC H1
  -- the event
  have HP := Lib.hid (fun wx hx hv => print_c N (.slice ao F.length cap) F (by omega) wx hx hv HFB.out)
  have H2 : Hid ((printS (us N) F).2 = 0 → F.length ≤ 16 ∧ ∀ wx, Ml wx → Calls Tryd.prog 29 #[.string (bs (printS (us N) F).1)] wx fun e w' => ∃ u, e = .returned (.tuple #[.agg #[.string N, u], .int .i64 0]) ∧ RPrms w' u F ∧ Fresh wx.heap.size u ∧ Below wx.heap.size wx w') := by
    intro h
    obtain ⟨a1, a2⟩ := print_ok (us N) F h
    obtain ⟨o1, o2, o3⟩ := evOnce (us N) F a1 a2
    refine ⟨(textS_ok F a2).1, fun wx hx => ?_⟩
    have := event_c (bs (printS (us N) F).1) (by rw [size_bs]; omega) wx hx
    unfold EvPost at this
    rw [us_bs, o2] at this
    simpa using this
  obtain ⟨p, hp⟩ : ∃ p, p = printS (us N) F := ⟨_, rfl⟩
  rw [← hp] at HP H2
  clear hp
  obtain ⟨ps, pe⟩ := p
  dsimp only at HP H2
  -- the state
  have HS := Lib.hid (fun wx => show_c SN x SR (by omega) (by omega) x0 x1 wx)
  have H3 : Hid ((showS (us SN) x (us SR)).2 = 0 → ∀ wx, Ml wx → Calls Tryd.prog 18 #[.string (bs (showS (us SN) x (us SR)).1)] wx fun e w' => e = .returned (.tuple #[.agg #[.string SN, .int .i64 x, .string SR], .int .i64 0]) ∧ Below wx.heap.size wx w') := by
    intro h wx hx
    obtain ⟨a1, a2, a3, a4, a5⟩ := show_ok _ x _ h
    have hrl : (us SR).length ≤ 64 := by
      rcases a5 with h | h
      · rw [h]; exact Nat.zero_le _
      · exact token_len _ h
    have hsl := show_len (us SN) x (us SR) (token_len _ a1) hrl
    have := state_c (bs (showS (us SN) x (us SR)).1) (by rw [size_bs]; omega) wx hx
    unfold StPost stV at this
    rw [us_bs, (state_back _ x _ a1 a2 a3 a4 a5).2] at this
    simpa using this
  obtain ⟨q, hq⟩ : ∃ q, q = showS (us SN) x (us SR) := ⟨_, rfl⟩
  rw [← hq] at HS H3
  clear hq
  obtain ⟨qs, qe⟩ := q
  dsimp only at HS H3
  obtain ⟨C, hC⟩ : ∃ C, C = bs cs := ⟨_, rfl⟩
  obtain ⟨P, hP⟩ : ∃ C, C = bs ps := ⟨_, rfl⟩
  obtain ⟨Q, hQ⟩ : ∃ C, C = bs qs := ⟨_, rfl⟩
  rw [← hC] at HC H1
  rw [← hP] at HP H2
  rw [← hQ] at HS H3
  clear hC hP hQ
  have hR0 : Below w.heap.size w w := Below.refl _ _
  have hbox : ∀ (w1 : World) (o : Obj), Below w.heap.size w w1 → Below w.heap.size w (w1.alloc o) := fun w1 o h => h.alloc h.size _
  have HBX := Lib.hid hbox
  clear hbox
  by_cases hce : ce = 0 <;> by_cases hpe : pe = 0 <;> by_cases hqe : qe = 0
  all_goals
    first
    | (have X1 := Lib.hid (H1.out hce); subst hce)
    | (have ce0 : (ce == 0) = false := by simpa using hce)
    first
    | (obtain ⟨hl16, hx2⟩ := H2.out hpe; have X2 := Lib.hid hx2; clear hx2; subst hpe; have hl100 : ((F.length : Int) ≤ 100) := by omega)
    | (have pe0 : (pe == 0) = false := by simpa using hpe)
    first
    | (have X3 := Lib.hid (H3.out hqe); subst hqe)
    | (have qe0 : (qe == 0) = false := by simpa using hqe)
    clear H1 H2 H3
    go_enter Tryd.func10, Tryd.ntmps10
    go_wp2_with (first
      | (go_at_call 24; refine (HC.out _).mono ?_; rintro e w1 ⟨rfl, hC1⟩; obtain ⟨D0, D1, hB1, hz1⟩ := twoCall hC1; obtain ⟨a0, a1, _, _, ha⟩ := D0.f2; obtain ⟨b0, b1, b2, _, _, _, hb⟩ := D1.f3; have HD0 := Lib.hid D0; have HD1 := Lib.hid D1; clear D0 D1 hC1)
      | (go_at_call 22; refine (X1.out _ (HM.out.below hB1)).mono ?_; rintro e w2 ⟨rfl, hC2⟩; have E0 := HD0.out.call hC2; have E1 := HD1.out.call hC2; obtain ⟨c0, c1, _, _, hc⟩ := E0.f2; obtain ⟨d0, d1, d2, _, _, _, hd⟩ := E1.f3; have HE0 := Lib.hid E0; have HE1 := Lib.hid E1; have hB2 := hB1.trans (hC2.mono hB1.size); clear E0 E1 hC2)
      | (go_at_call 31; refine (HP.out _ (by first | exact HM.out.below hB2 | exact HM.out.below hB1) (by first | exact HU.out.below hB2 (Nat.le_refl _) | exact HU.out.below hB1 (Nat.le_refl _))).mono ?_; rintro e w3 ⟨rfl, hC3⟩; have F0 : Blk w3 _ _ _ := (by first | exact HE0.out.call hC3 | exact HD0.out.call hC3); have F1 : Blk w3 _ _ _ := (by first | exact HE1.out.call hC3 | exact HD1.out.call hC3); obtain ⟨i0, i1, _, _, hi⟩ := F0.f2; obtain ⟨j0, j1, j2, _, _, _, hj⟩ := F1.f3; have HF0 := Lib.hid F0; have HF1 := Lib.hid F1; have hB3 : Below w.heap.size w w3 := (by first | exact hB2.trans (hC3.mono hB2.size) | exact hB1.trans (hC3.mono hB1.size)); clear F0 F1 hC3)
      | (go_at_call 29; refine (X2.out _ (HM.out.below hB3)).mono ?_; rintro e w4 ⟨ub, rfl, hub, _, hC4⟩; have G0 := HF0.out.call hC4; have G1 := HF1.out.call hC4; obtain ⟨k0, k1, _, _, hk⟩ := G0.f2; have HG0 := Lib.hid G0; have HG1 := Lib.hid G1; have HBb := Lib.hid hub; obtain ⟨b1', b2', rfl, _, _⟩ := hub.form; have hB4 := hB3.trans (hC4.mono hB3.size); clear G0 G1 hub hC4)
      | (go_at_call 33; refine (sameE_c _ _ _ _ _ _ _ (HU.out.below (HBX.out _ _ hB4) (Nat.le_refl _)) (HBb.out.below ((Below.refl _ _).alloc (Nat.le_refl _) _) (Nat.le_refl _))).mono ?_; rw [evEq_self]; rintro e w5 ⟨rfl, hC5⟩; obtain ⟨A5, hB5', hz5⟩ := newCall hC5; have I0 := HG0.out.call hB5'; have I1 := HG1.out.call hB5'; have HBc := Lib.hid (HBb.out.below hB5' (Nat.le_refl _)); obtain ⟨l0, l1, _, _, hl⟩ := I0.f2; obtain ⟨m0, m1, _, _, hm5⟩ := A5.f2; have HI1 := Lib.hid I1; have hB5 := hB4.trans (hB5'.mono hB4.size); clear A5 I0 I1 hC5 hB5')
      | (go_at_call 34; refine (is_c _ _ _ _ _ _ _ (HU.out.below hB5 (Nat.le_refl _)) HBc.out (fun p hp => (HFB.out p hp).1) (fun p hp => (HFB.out p hp).1)).mono ?_; rw [isS_self]; rintro e w6 ⟨rfl, hC6⟩; have J1 := HI1.out.call hC6; obtain ⟨n0', n1', n2', _, _, _, hn⟩ := J1.f3; have HJ1 := Lib.hid J1; have hB6 := hB5.trans (hC6.mono hB5.size); clear J1 hC6)
      | (go_at_call 20; refine (HS.out _).mono ?_; rintro e w7 ⟨rfl, hC7⟩; have K1 : Blk w7 _ _ _ := (by first | exact HJ1.out.call hC7 | exact HF1.out.call hC7); obtain ⟨o0, o1, o2, _, _, _, ho⟩ := K1.f3; have HK1 := Lib.hid K1; have hB7 : Below w.heap.size w w7 := (by first | exact hB6.trans (hC7.mono hB6.size) | exact hB3.trans (hC7.mono hB3.size)); clear K1 hC7)
      | (go_at_call 18; refine (X3.out _ (HM.out.below hB7)).mono ?_; rintro e w8 ⟨rfl, hC8⟩; have L1 := HK1.out.call hC8; obtain ⟨p0, p1, p2, _, _, _, hp8⟩ := L1.f3; have hB8 := hB7.trans (hC8.mono hB7.size); clear L1 hC8)
      | (go_at_call 15; refine (HW.out _ (by first | exact HM.out.below (HBX.out _ _ hB8) | exact HM.out.below hB7)).mono ?_; rintro e w9 ⟨rfl, hC9⟩; have hB9 : Below w.heap.size w w9 := (by first | exact hB8.trans ((newCall hC9).2.1.mono hB8.size) | exact hB7.trans (hC9.mono hB7.size))))
    go_ret
    exact ⟨rfl, hB9⟩

end Go.Proofs.YteiafgoigfehgaaDoor
