/-
  The law HeadOnce: the walk.
-/
import Derived.Test.YteiafgoigfehgaaDoorLawEvents
import Derived.Test.YteiafgoigfehgaaDoorBackF
namespace Go.Proofs.YteiafgoigfehgaaDoor
open Go.RowKit Go.Sort

theorem token_len (l : List UInt8) (h : token l = true) : l.length ≤ 64 := by
  unfold token at h
  simp only [Bool.and_eq_true, decide_eq_true_eq] at h
  exact h.1.2
theorem show_len (n : List UInt8) (x : Int) (r : List UInt8) (hn : n.length ≤ 64) (hr : r.length ≤ 64) : (showS n x r).1.length ≤ 300 := by
  have hd := digits_len x
  unfold showS
  split
  · exact Nat.zero_le _
  · have e1 : sReason.length = 6 := rfl
    have e2 : sExpires.length = 7 := rfl
    show (n ++ _).length ≤ 300
    rw [List.length_append, List.length_append]
    have a1 : (if r = [] then ([] : List UInt8) else 59 :: (sReason ++ 61 :: r)).length ≤ 72 := by
      split
      · exact Nat.zero_le _
      · rw [List.length_cons, List.length_append, List.length_cons]; omega
    have a2 : (if x < 0 then ([] : List UInt8) else 59 :: (sExpires ++ 61 :: digits x)).length ≤ 29 := by
      split
      · exact Nat.zero_le _
      · rw [List.length_cons, List.length_append, List.length_cons]; omega
    omega
/-- writing and reading again what was read as an event -/
theorem evOnce (en : List UInt8) (eF : List Prm) (h1 : token en = true) (h2 : (textS eF).2 = 0) : (printS en eF).2 = 0 ∧ evS (printS en eF).1 = ((en, eF), 0) ∧ (printS en eF).1.length ≤ 3264 := by
  have hp : printS en eF = (en ++ (textS eF).1, 0) := by unfold printS; rw [if_neg]; rintro (h | h); rw [h1] at h; cases h; exact h h2
  obtain ⟨b1, b2, b3⟩ := event_back en eF h1 h2
  rw [hp]
  refine ⟨rfl, ?_, ?_⟩
  · rw [evS_yes _ b1, b2, b3]
  · have := token_len en h1
    have := textS_le eF
    show (en ++ (textS eF).1).length ≤ _
    rw [List.length_append]; omega
theorem evS_bd (l : List UInt8) : ∀ p ∈ (evS l).1.2, p.name.length ≤ 64 ∧ p.value.length ≤ 64 := by
  unfold evS
  split
  · exact fieldsS_bd _
  · intro p hp; cases hp

set_option maxRecDepth 100000 in
set_option maxHeartbeats 6400000 in
theorem headOnce_walk (s : ByteArray) (hs : s.size ≤ 1048576) (w : World) (hm : Ml w) :
    Calls Tryd.prog 9 #[.string s] w fun e w' => e = .returned (.bool true) ∧ Below w.heap.size w w' := by
  have HM := Lib.hid hm
  clear hm
  have HW := Lib.hid (fun wx hx => awake_c wx hx)
  have HE := Lib.hid (fun wx hx => event_c s (by omega) wx hx)
  have HS := Lib.hid (fun wx hx => state_c s (by omega) wx hx)
  unfold EvPost at HE
  unfold StPost stV at HS
  have hev := ev_once (us s)
  have hbd := evS_bd (us s)
  obtain ⟨ev, hevx⟩ : ∃ ev, ev = evS (us s) := ⟨_, rfl⟩
  rw [← hevx] at HE hev hbd
  clear hevx
  obtain ⟨⟨en, eF⟩, ee⟩ := ev
  dsimp only at HE hev hbd
  have hst := st_once (us s)
  obtain ⟨st, hstx⟩ : ∃ st, st = stS (us s) := ⟨_, rfl⟩
  rw [← hstx] at HS hst
  clear hstx
  obtain ⟨⟨sn, sx, sr⟩, se⟩ := st
  dsimp only at HS hst
  have hone := evOnce en eF
  have hback := state_back sn sx sr
  have HEV : Hid (ee = 0 → ∃ T : ByteArray, (∀ (wx : World) (u : Value), Ml wx → RPrms wx u eF → Calls Tryd.prog 31 #[.agg #[.string (bs en), u]] wx fun e w' => e = .returned (.tuple #[.string T, .int .i64 0]) ∧ Below wx.heap.size wx w') ∧
      (∀ wx : World, Ml wx → Calls Tryd.prog 29 #[.string T] wx fun e w' => ∃ u, e = .returned (.tuple #[.agg #[.string (bs en), u], .int .i64 0]) ∧ RPrms w' u eF ∧ Fresh wx.heap.size u ∧ Below wx.heap.size wx w')) := by
    intro he
    obtain ⟨h1, h2⟩ := hev he
    obtain ⟨o1, o2, o3⟩ := hone h1 h2
    have htl := token_len en h1
    refine ⟨bs (printS en eF).1, fun wx u hx hu => ?_, fun wx hx => ?_⟩
    · have := print_c (bs en) u eF (by rw [size_bs]; omega) wx hx hu (fun p hp => by have := hbd p hp; omega)
      rw [us_bs, o1] at this
      exact this
    · have := event_c (bs (printS en eF).1) (by rw [size_bs]; omega) wx hx
      unfold EvPost at this
      rw [us_bs, o2] at this
      exact this
  have HST : Hid (se = 0 → ∃ T : ByteArray, (∀ (wx : World), Calls Tryd.prog 20 #[.agg #[.string (bs sn), .int .i64 sx, .string (bs sr)]] wx fun e w' => e = .returned (.tuple #[.string T, .int .i64 0]) ∧ Below wx.heap.size wx w') ∧
      (∀ wx : World, Ml wx → Calls Tryd.prog 18 #[.string T] wx fun e w' => e = .returned (.tuple #[.agg #[.string (bs sn), .int .i64 sx, .string (bs sr)], .int .i64 0]) ∧ Below wx.heap.size wx w')) := by
    intro he
    obtain ⟨h1, h2, h3, h4, h5⟩ := hst he
    obtain ⟨o1, o2⟩ := hback h1 h2 h3 h4 h5
    have htl := token_len sn h1
    have hrl : sr.length ≤ 64 := by
      rcases h5 with h | h
      · rw [h]; exact Nat.zero_le _
      · exact token_len sr h
    have hsl := show_len sn sx sr htl hrl
    refine ⟨bs (showS sn sx sr).1, fun wx => ?_, fun wx hx => ?_⟩
    · have := show_c (bs sn) sx (bs sr) (by rw [size_bs]; omega) (by rw [size_bs]; omega) (by omega) (by omega) wx
      rw [us_bs, us_bs, o1] at this
      exact this
    · have := state_c (bs (showS sn sx sr).1) (by rw [size_bs]; omega) wx hx
      unfold StPost stV at this
      rw [us_bs, o2] at this
      exact this
  clear hone hback hev hst hbd
  obtain ⟨P, hP⟩ : ∃ P, P = bs en := ⟨_, rfl⟩
  rw [← hP] at HE HEV
  obtain ⟨SN, hSN⟩ : ∃ P, P = bs sn := ⟨_, rfl⟩
  obtain ⟨SR, hSR⟩ : ∃ P, P = bs sr := ⟨_, rfl⟩
  rw [← hSN, ← hSR] at HS HST
  clear hP hSN hSR
  have hR0 : Below w.heap.size w w := Below.refl _ _
  have hbox : ∀ (w1 : World) (o : Obj), Below w.heap.size w w1 → Below w.heap.size w (w1.alloc o) := fun w1 o h => h.alloc h.size _
  have HBX := Lib.hid hbox
  clear hbox
  by_cases he : ee = 0 <;> by_cases hse : se = 0
  all_goals
    first
    | (obtain ⟨T, hP, hE2⟩ := HEV.out he; have HP := Lib.hid hP; have HE2 := Lib.hid hE2; subst he; clear hP hE2)
    | (have he0 : (ee == 0) = false := by simpa using he)
    first
    | (obtain ⟨U, hT, hS2⟩ := HST.out hse; have HT := Lib.hid hT; have HS2 := Lib.hid hS2; subst hse; clear hT hS2)
    | (have hse0 : (se == 0) = false := by simpa using hse)
    clear HEV HST
    go_enter Tryd.func9, Tryd.ntmps9
    go_wp2_with (first
      | (go_at_call 29; ((with_reducible refine (HE.out _ HM.out).mono ?_); rintro e w1 ⟨ua, rfl, hua, _, hB1⟩); have HA := Lib.hid hua; obtain ⟨a1, a2, rfl, _, _⟩ := hua.form; clear hua)
      | (go_at_call 31; refine (HP.out _ _ (HM.out.below (HBX.out _ _ hB1)) (HA.out.below ((Below.refl _ _).alloc (Nat.le_refl _) _) (Nat.le_refl _))).mono ?_; rintro e w2 ⟨rfl, hC2⟩; obtain ⟨A, hB2', hz2⟩ := newCall hC2; have HAA := Lib.hid A; have HA2 := Lib.hid (HA.out.below hB2' (Nat.le_refl _)); have hB2 := hB1.trans (hB2'.mono hB1.size); clear A hC2 hB2')
      | (go_at_call 29; ((with_reducible refine (HE2.out _ (HM.out.below hB2)).mono ?_); rintro e w3 ⟨ub, rfl, hub, _, hC3⟩); have B := HAA.out.call hC3; obtain ⟨r0, r1, _, _, hzr⟩ := B.f2; have HA3 := Lib.hid (HA2.out.below hC3 (Nat.le_refl _)); have HBb := Lib.hid hub; obtain ⟨b1, b2, rfl, _, _⟩ := hub.form; have hB3 := hB2.trans (hC3.mono hB2.size); clear B hub hC3)
      | (go_at_call 33; refine (sameE_c _ _ _ _ _ _ _ (HA3.out.below ((Below.refl _ _).alloc (Nat.le_refl _) _) (Nat.le_refl _)) (HBb.out.below ((Below.refl _ _).alloc (Nat.le_refl _) _) (Nat.le_refl _))).mono ?_; rw [evEq_self]; rintro e w4 ⟨rfl, hC4⟩; obtain ⟨_, hB4', _⟩ := newCall hC4; have hB4 := hB3.trans (hB4'.mono hB3.size); clear hC4 hB4')
      | (go_at_call 18; ((with_reducible refine (HS.out _ (by first | exact HM.out.below hB4 | exact HM.out.below (HBX.out _ _ hB1))).mono ?_); rintro e w5 ⟨rfl, hC5⟩); have hB5 : Below w.heap.size w w5 := (by first | exact hB4.trans (hC5.mono hB4.size) | exact hB1.trans ((newCall hC5).2.1.mono hB1.size)); clear hC5)
      | (go_at_call 20; refine (HT.out _).mono ?_; rintro e w6 ⟨rfl, hC6⟩; obtain ⟨A6, hB6', hz6⟩ := newCall hC6; have HA6 := Lib.hid A6; have hB6 := hB5.trans (hB6'.mono hB5.size); clear A6 hC6 hB6')
      | (go_at_call 18; ((with_reducible refine (HS2.out _ (HM.out.below hB6)).mono ?_); rintro e w7 ⟨rfl, hC7⟩); have B7 := HA6.out.call hC7; obtain ⟨c0, c1, c2, _, _, _, hzc⟩ := B7.f3; have hB7 := hB6.trans (hC7.mono hB6.size); clear B7 hC7)
      | (go_at_call 15; refine (HW.out _ (by first | exact HM.out.below (HBX.out _ _ hB7) | exact HM.out.below (HBX.out _ _ hB5))).mono ?_; rintro e w8 ⟨rfl, hC8⟩; have hB8 : Below w.heap.size w w8 := (by first | exact hB7.trans ((newCall hC8).2.1.mono hB7.size) | exact hB5.trans ((newCall hC8).2.1.mono hB5.size))))
    go_ret
    exact ⟨rfl, hB8⟩

end Go.Proofs.YteiafgoigfehgaaDoor
