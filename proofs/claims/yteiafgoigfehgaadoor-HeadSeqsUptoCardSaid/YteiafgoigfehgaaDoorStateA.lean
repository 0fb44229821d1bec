/-
  head.State, the walk.
-/
import Derived.Test.YteiafgoigfehgaaDoorState
namespace Go.Proofs.YteiafgoigfehgaaDoor
open Go.RowKit

set_option maxRecDepth 100000 in
set_option maxHeartbeats 3200000 in
theorem state_c (s : ByteArray) (hs : s.size ≤ 4294967280) (w : World) (hm : Ml w) :
    Calls Tryd.prog 18 #[.string s] w (StPost (us s) w) := by
  have HM := Lib.hid hm
  clear hm
  have HH := Lib.hid (fun wx hx => fieldsH_c s hs wx hx)
  have HLo := Lib.hid (fun wx => lowerP_c (bs (nameP (us s))) (by rw [size_bs]; have := nameP_le (us s); rw [length_us] at this; omega) wx)
  rw [us_bs] at HLo
  have hbd := fieldsS_bd (parts (us s) 59).tail
  have HV1 := Lib.hid (fun wx v hx => value_c v (fieldsP (us s)).1 ⟨#[114, 101, 97, 115, 111, 110]⟩ (by decide) wx hx (fun p hp => by have := (hbd p hp).1; omega))
  have HV2 := Lib.hid (fun wx v hx => value_c v (fieldsP (us s)).1 ⟨#[101, 120, 112, 105, 114, 101, 115]⟩ (by decide) wx hx (fun p hp => by have := (hbd p hp).1; omega))
  rw [show us ⟨#[114, 101, 97, 115, 111, 110]⟩ = sReason from rfl] at HV1
  rw [show us ⟨#[101, 120, 112, 105, 114, 101, 115]⟩ = sExpires from rfl] at HV2
  have hr1 := value_len (fieldsP (us s)).1 sReason 64 (fun p hp => (hbd p hp).2)
  have hr2 := value_len (fieldsP (us s)).1 sExpires 64 (fun p hp => (hbd p hp).2)
  have hst : stS (us s) = stOf (okP (us s)) (lowr (nameP (us s))) (us (bs (value (fieldsP (us s)).1 sReason).1)) (value (fieldsP (us s)).1 sExpires) := by rw [us_bs]; rfl
  obtain ⟨ok, hok⟩ : ∃ ok, ok = okP (us s) := ⟨_, rfl⟩
  rw [← hok] at HH hst
  obtain ⟨lo, hlo⟩ : ∃ lo, lo = lowr (nameP (us s)) := ⟨_, rfl⟩
  rw [← hlo] at HLo hst
  obtain ⟨N, hN⟩ : ∃ N, N = nameP (us s) := ⟨_, rfl⟩
  rw [← hN] at HH HLo
  clear hok hlo hN hbd
  obtain ⟨F, hF⟩ : ∃ F, F = (fieldsP (us s)).1 := ⟨_, rfl⟩
  rw [← hF] at HH HV1 HV2 hr1 hr2 hst
  clear hF
  obtain ⟨p1, hp1⟩ : ∃ p1, p1 = value F sReason := ⟨_, rfl⟩
  rw [← hp1] at HV1 hr1 hst
  obtain ⟨p2, hp2⟩ : ∃ p2, p2 = value F sExpires := ⟨_, rfl⟩
  rw [← hp2] at HV2 hr2 hst
  clear hp1 hp2
  obtain ⟨r1, b1⟩ := p1
  obtain ⟨t2, told⟩ := p2
  dsimp only at HV1 HV2 hr1 hr2 hst
  obtain ⟨R, hR⟩ : ∃ R, R = bs r1 := ⟨_, rfl⟩
  have hRs : R.size ≤ 64 := by rw [hR, size_bs]; exact hr1
  rw [← hR] at HV1 hst
  clear hR hr1
  have hTs : (bs t2).size ≤ 64 := by rw [size_bs]; exact hr2
  have HTK := Lib.hid (fun wx => token_c R (by omega) wx)
  have HTM := Lib.hid (fun wx => time_c (bs t2) (by omega) wx)
  rw [us_bs] at HTM
  have hC := st_cases ok lo R (t2, told)
  rw [← hst] at hC
  dsimp only at hC
  obtain ⟨tm, htm⟩ : ∃ tm, tm = timeS t2 := ⟨_, rfl⟩
  rw [← htm] at HTM hC
  clear hst htm hr2 hTs
  obtain ⟨tn, te⟩ := tm
  dsimp only at HTM hC
  rcases hC with ⟨rfl, hE⟩ | ⟨rfl, hz, htk, hE⟩ | ⟨rfl, hz, hC⟩
  · have HE := Lib.hid hE
    clear hE
    go_enter Tryd.func18, Tryd.ntmps18
    go_wp2_with (first | (go_at_call 47; refine (HH.out _ (HM.out.below ((Below.refl _ _).alloc (Nat.le_refl _) _))).mono ?_; rintro e w1 ⟨u, rfl, hu, hF0, hC⟩; obtain ⟨B1, hB1, hz1⟩ := newCall hC; obtain ⟨a0, a1, a2, f0, f1, f2, _⟩ := B1.f3; clear hC hF0; have HU := Lib.hid hu; obtain ⟨ao, cp, rfl, hml, hcl⟩ := hu.form; clear hu hcl; have HB1 := Lib.hid B1; clear B1) | (go_at_call 36; refine (HLo.out _).mono ?_; rintro e w2 ⟨rfl, hC2⟩; have HU2 := Lib.hid (HU.out.below hC2 (Nat.le_refl _)); have B2 := HB1.out.call hC2; obtain ⟨a0', a1', a2', f0', f1', f2', hz2⟩ := B2.f3; have HB2 := Lib.hid B2; clear B2; have hB2 := hB1.trans (hC2.mono (Nat.le_of_lt hz1)); clear hC2))
    refine bodyPost_ret (v := .tuple #[.agg #[.string ⟨#[]⟩, .int .i64 0, .string ⟨#[]⟩], .int .i64 82]) (by simp [results, Tryd.results18, go_sem, a0', a1', a2', hz2]) rfl ?_
    exact ⟨by rw [HE.out]; rfl, (by repeat (first | exact hB2 | (refine Below.alloc ?_ (by first | (simp; omega) | simp) _) | (refine Below.setCell ?_ (by first | exact Nat.le_refl _ | exact Nat.le_of_lt hz2) _)))⟩
  · have HE := Lib.hid hE
    clear hE
    rw [htk] at HTK
    have pE := ne_empty hz
    have pF := isEmpty_f hz
    clear htk
    go_enter Tryd.func18, Tryd.ntmps18
    go_wp2_with (first | (go_at_call 47; refine (HH.out _ (HM.out.below ((Below.refl _ _).alloc (Nat.le_refl _) _))).mono ?_; rintro e w1 ⟨u, rfl, hu, hF0, hC⟩; obtain ⟨B1, hB1, hz1⟩ := newCall hC; obtain ⟨a0, a1, a2, f0, f1, f2, _⟩ := B1.f3; clear hC hF0; have HU := Lib.hid hu; obtain ⟨ao, cp, rfl, hml, hcl⟩ := hu.form; clear hu hcl; have HB1 := Lib.hid B1; clear B1) | (go_at_call 36; refine (HLo.out _).mono ?_; rintro e w2 ⟨rfl, hC2⟩; have HU2 := Lib.hid (HU.out.below hC2 (Nat.le_refl _)); have B2 := HB1.out.call hC2; obtain ⟨a0', a1', a2', f0', f1', f2', hz2⟩ := B2.f3; have HB2 := Lib.hid B2; clear B2; have hB2 := hB1.trans (hC2.mono (Nat.le_of_lt hz1)); clear hC2) | (go_at_call 48; ((with_reducible refine (HV1.out _ _ (HU2.out.below ((Below.refl _ _).alloc (Nat.le_refl _) _) (Nat.le_refl _))).mono ?_); rintro e w3 ⟨rfl, hC3⟩); have HU3 := Lib.hid (HU2.out.below (((Below.refl _ _).alloc (Nat.le_refl _) _).trans (hC3.mono (by rw [World.size_alloc]; omega))) (Nat.le_refl _)); obtain ⟨B3, hB3', hz3⟩ := newCall hC3; have C3 := HB2.out.below hB3' hz2; obtain ⟨d0, d1, d2, e0, e1, e2, _⟩ := C3.f3; obtain ⟨b0, b1, b2, g0, g1, g2, _⟩ := B3.f3; have HB3 := Lib.hid B3; have HC3 := Lib.hid C3; clear B3 C3 hC3; have hB3 := hB2.trans (hB3'.mono (Nat.le_of_lt hz2)); have hz13 : w.heap.size < w3.heap.size := Nat.lt_trans hz2 hz3; have hne : ¬ (w2.heap.size = w.heap.size) := Nat.ne_of_gt hz2) | (go_at_call 40; refine (HTK.out _).mono ?_; rintro e wx ⟨rfl, rfl⟩))
    refine bodyPost_ret (v := .tuple #[.agg #[.string ⟨#[]⟩, .int .i64 0, .string ⟨#[]⟩], .int .i64 82]) (by simp [results, Tryd.results18, go_sem, d0, d1, d2]) rfl ?_
    exact ⟨by rw [HE.out]; rfl, (by repeat (first | exact hB3 | (refine Below.alloc ?_ (by first | (simp; omega) | simp) _) | (refine Below.setCell ?_ (by first | exact Nat.le_refl _ | exact Nat.le_of_lt hz2) _)))⟩
  · rcases hz with hz | ⟨hz, htk⟩
    · obtain rfl := eq_empty hz
      clear hz
      rcases hC with ⟨rfl, hE⟩ | ⟨rfl, hte, hE⟩ | ⟨rfl, hte, hE⟩
      all_goals
        have HE := Lib.hid hE
        clear hE
      · go_enter Tryd.func18, Tryd.ntmps18
        go_wp2_with (first | (go_at_call 47; refine (HH.out _ (HM.out.below ((Below.refl _ _).alloc (Nat.le_refl _) _))).mono ?_; rintro e w1 ⟨u, rfl, hu, hF0, hC⟩; obtain ⟨B1, hB1, hz1⟩ := newCall hC; obtain ⟨a0, a1, a2, f0, f1, f2, _⟩ := B1.f3; clear hC hF0; have HU := Lib.hid hu; obtain ⟨ao, cp, rfl, hml, hcl⟩ := hu.form; clear hu hcl; have HB1 := Lib.hid B1; clear B1) | (go_at_call 36; refine (HLo.out _).mono ?_; rintro e w2 ⟨rfl, hC2⟩; have HU2 := Lib.hid (HU.out.below hC2 (Nat.le_refl _)); have B2 := HB1.out.call hC2; obtain ⟨a0', a1', a2', f0', f1', f2', hz2⟩ := B2.f3; have HB2 := Lib.hid B2; clear B2; have hB2 := hB1.trans (hC2.mono (Nat.le_of_lt hz1)); clear hC2) | (go_at_call 48; ((with_reducible refine (HV1.out _ _ (HU2.out.below ((Below.refl _ _).alloc (Nat.le_refl _) _) (Nat.le_refl _))).mono ?_); rintro e w3 ⟨rfl, hC3⟩); have HU3 := Lib.hid (HU2.out.below (((Below.refl _ _).alloc (Nat.le_refl _) _).trans (hC3.mono (by rw [World.size_alloc]; omega))) (Nat.le_refl _)); obtain ⟨B3, hB3', hz3⟩ := newCall hC3; have C3 := HB2.out.below hB3' hz2; obtain ⟨d0, d1, d2, e0, e1, e2, _⟩ := C3.f3; obtain ⟨b0, b1, b2, g0, g1, g2, _⟩ := B3.f3; have HB3 := Lib.hid B3; have HC3 := Lib.hid C3; clear B3 C3 hC3; have hB3 := hB2.trans (hB3'.mono (Nat.le_of_lt hz2)); have hz13 : w.heap.size < w3.heap.size := Nat.lt_trans hz2 hz3; have hne : ¬ (w2.heap.size = w.heap.size) := Nat.ne_of_gt hz2) | (go_at_call 48; ((with_reducible refine (HV2.out _ _ (HU2.out.below (hB3'.setCell (Nat.le_refl _) _) (Nat.le_refl _))).mono ?_); rintro e w4 ⟨rfl, hC4⟩); have C4 : Blk w4 w.heap.size 34 #[.string ⟨#[]⟩, .int .i64 0, .string ⟨#[]⟩] := (HC3.out.far (Nat.ne_of_lt hz2) _).call hC4; have B4 : Blk w4 w2.heap.size 34 #[.string (bs lo), .int .i64 (-1), .string ByteArray.empty] := (HB3.out.set_ 2 _).call hC4; obtain ⟨d0', d1', d2', e0', e1', e2', hz14⟩ := C4.f3; obtain ⟨b0', b1', b2', g0', g1', g2', hz24⟩ := B4.f3; have hB4 := hB3.trans (setCall hC4 (Nat.le_of_lt hz2) (Nat.le_of_lt hz13)).1; clear C4 B4 hC4))
        refine bodyPost_ret (v := .tuple #[.agg #[.string (bs lo), .int .i64 (-1), .string ByteArray.empty], .int .i64 0]) (by simp [results, Tryd.results18, go_sem, d0', d1', d2']) rfl ?_
        exact ⟨by rw [HE.out]; first | rfl | (unfold stV; simp), (by repeat (first | exact hB4 | (refine Below.alloc ?_ (by first | (simp; omega) | simp) _) | (refine Below.setCell ?_ (by first | exact Nat.le_refl _ | exact Nat.le_of_lt hz2) _)))⟩
      · go_enter Tryd.func18, Tryd.ntmps18
        go_wp2_with (first | (go_at_call 47; refine (HH.out _ (HM.out.below ((Below.refl _ _).alloc (Nat.le_refl _) _))).mono ?_; rintro e w1 ⟨u, rfl, hu, hF0, hC⟩; obtain ⟨B1, hB1, hz1⟩ := newCall hC; obtain ⟨a0, a1, a2, f0, f1, f2, _⟩ := B1.f3; clear hC hF0; have HU := Lib.hid hu; obtain ⟨ao, cp, rfl, hml, hcl⟩ := hu.form; clear hu hcl; have HB1 := Lib.hid B1; clear B1) | (go_at_call 36; refine (HLo.out _).mono ?_; rintro e w2 ⟨rfl, hC2⟩; have HU2 := Lib.hid (HU.out.below hC2 (Nat.le_refl _)); have B2 := HB1.out.call hC2; obtain ⟨a0', a1', a2', f0', f1', f2', hz2⟩ := B2.f3; have HB2 := Lib.hid B2; clear B2; have hB2 := hB1.trans (hC2.mono (Nat.le_of_lt hz1)); clear hC2) | (go_at_call 48; ((with_reducible refine (HV1.out _ _ (HU2.out.below ((Below.refl _ _).alloc (Nat.le_refl _) _) (Nat.le_refl _))).mono ?_); rintro e w3 ⟨rfl, hC3⟩); have HU3 := Lib.hid (HU2.out.below (((Below.refl _ _).alloc (Nat.le_refl _) _).trans (hC3.mono (by rw [World.size_alloc]; omega))) (Nat.le_refl _)); obtain ⟨B3, hB3', hz3⟩ := newCall hC3; have C3 := HB2.out.below hB3' hz2; obtain ⟨d0, d1, d2, e0, e1, e2, _⟩ := C3.f3; obtain ⟨b0, b1, b2, g0, g1, g2, _⟩ := B3.f3; have HB3 := Lib.hid B3; have HC3 := Lib.hid C3; clear B3 C3 hC3; have hB3 := hB2.trans (hB3'.mono (Nat.le_of_lt hz2)); have hz13 : w.heap.size < w3.heap.size := Nat.lt_trans hz2 hz3; have hne : ¬ (w2.heap.size = w.heap.size) := Nat.ne_of_gt hz2) | (go_at_call 48; ((with_reducible refine (HV2.out _ _ (HU2.out.below (hB3'.setCell (Nat.le_refl _) _) (Nat.le_refl _))).mono ?_); rintro e w4 ⟨rfl, hC4⟩); have C4 : Blk w4 w.heap.size 34 #[.string ⟨#[]⟩, .int .i64 0, .string ⟨#[]⟩] := (HC3.out.far (Nat.ne_of_lt hz2) _).call hC4; have B4 : Blk w4 w2.heap.size 34 #[.string (bs lo), .int .i64 (-1), .string ByteArray.empty] := (HB3.out.set_ 2 _).call hC4; obtain ⟨d0', d1', d2', e0', e1', e2', hz14⟩ := C4.f3; obtain ⟨b0', b1', b2', g0', g1', g2', hz24⟩ := B4.f3; have hB4 := hB3.trans (setCall hC4 (Nat.le_of_lt hz2) (Nat.le_of_lt hz13)).1; clear C4 B4 hC4) | (go_at_call 16; refine (HTM.out _).mono ?_; rintro e wx ⟨rfl, rfl⟩))
        refine bodyPost_ret (v := .tuple #[.agg #[.string ⟨#[]⟩, .int .i64 0, .string ⟨#[]⟩], .int .i64 82]) (by simp [results, Tryd.results18, go_sem, d0', d1', d2']) rfl ?_
        exact ⟨by rw [HE.out]; rfl, (by repeat (first | exact hB4 | (refine Below.alloc ?_ (by first | (simp; omega) | simp) _) | (refine Below.setCell ?_ (by first | exact Nat.le_refl _ | exact Nat.le_of_lt hz2) _)))⟩
      · go_enter Tryd.func18, Tryd.ntmps18
        go_wp2_with (first | (go_at_call 47; refine (HH.out _ (HM.out.below ((Below.refl _ _).alloc (Nat.le_refl _) _))).mono ?_; rintro e w1 ⟨u, rfl, hu, hF0, hC⟩; obtain ⟨B1, hB1, hz1⟩ := newCall hC; obtain ⟨a0, a1, a2, f0, f1, f2, _⟩ := B1.f3; clear hC hF0; have HU := Lib.hid hu; obtain ⟨ao, cp, rfl, hml, hcl⟩ := hu.form; clear hu hcl; have HB1 := Lib.hid B1; clear B1) | (go_at_call 36; refine (HLo.out _).mono ?_; rintro e w2 ⟨rfl, hC2⟩; have HU2 := Lib.hid (HU.out.below hC2 (Nat.le_refl _)); have B2 := HB1.out.call hC2; obtain ⟨a0', a1', a2', f0', f1', f2', hz2⟩ := B2.f3; have HB2 := Lib.hid B2; clear B2; have hB2 := hB1.trans (hC2.mono (Nat.le_of_lt hz1)); clear hC2) | (go_at_call 48; ((with_reducible refine (HV1.out _ _ (HU2.out.below ((Below.refl _ _).alloc (Nat.le_refl _) _) (Nat.le_refl _))).mono ?_); rintro e w3 ⟨rfl, hC3⟩); have HU3 := Lib.hid (HU2.out.below (((Below.refl _ _).alloc (Nat.le_refl _) _).trans (hC3.mono (by rw [World.size_alloc]; omega))) (Nat.le_refl _)); obtain ⟨B3, hB3', hz3⟩ := newCall hC3; have C3 := HB2.out.below hB3' hz2; obtain ⟨d0, d1, d2, e0, e1, e2, _⟩ := C3.f3; obtain ⟨b0, b1, b2, g0, g1, g2, _⟩ := B3.f3; have HB3 := Lib.hid B3; have HC3 := Lib.hid C3; clear B3 C3 hC3; have hB3 := hB2.trans (hB3'.mono (Nat.le_of_lt hz2)); have hz13 : w.heap.size < w3.heap.size := Nat.lt_trans hz2 hz3; have hne : ¬ (w2.heap.size = w.heap.size) := Nat.ne_of_gt hz2) | (go_at_call 48; ((with_reducible refine (HV2.out _ _ (HU2.out.below (hB3'.setCell (Nat.le_refl _) _) (Nat.le_refl _))).mono ?_); rintro e w4 ⟨rfl, hC4⟩); have C4 : Blk w4 w.heap.size 34 #[.string ⟨#[]⟩, .int .i64 0, .string ⟨#[]⟩] := (HC3.out.far (Nat.ne_of_lt hz2) _).call hC4; have B4 : Blk w4 w2.heap.size 34 #[.string (bs lo), .int .i64 (-1), .string ByteArray.empty] := (HB3.out.set_ 2 _).call hC4; obtain ⟨d0', d1', d2', e0', e1', e2', hz14⟩ := C4.f3; obtain ⟨b0', b1', b2', g0', g1', g2', hz24⟩ := B4.f3; have hB4 := hB3.trans (setCall hC4 (Nat.le_of_lt hz2) (Nat.le_of_lt hz13)).1; clear C4 B4 hC4) | (go_at_call 16; refine (HTM.out _).mono ?_; rintro e wx ⟨rfl, rfl⟩))
        refine bodyPost_ret (v := .tuple #[.agg #[.string (bs lo), .int .i64 tn, .string ByteArray.empty], .int .i64 0]) (by simp [results, Tryd.results18, go_sem, d0', d1', d2']) rfl ?_
        exact ⟨by rw [HE.out]; first | rfl | (unfold stV; simp), (by repeat (first | exact hB4 | (refine Below.alloc ?_ (by first | (simp; omega) | simp) _) | (refine Below.setCell ?_ (by first | exact Nat.le_refl _ | exact Nat.le_of_lt hz2) _)))⟩
    · have pE := ne_empty hz
      have pF := isEmpty_f hz
      rw [htk] at HTK
      clear htk
      rcases hC with ⟨rfl, hE⟩ | ⟨rfl, hte, hE⟩ | ⟨rfl, hte, hE⟩
      all_goals
        have HE := Lib.hid hE
        clear hE
      · go_enter Tryd.func18, Tryd.ntmps18
        go_wp2_with (first | (go_at_call 47; refine (HH.out _ (HM.out.below ((Below.refl _ _).alloc (Nat.le_refl _) _))).mono ?_; rintro e w1 ⟨u, rfl, hu, hF0, hC⟩; obtain ⟨B1, hB1, hz1⟩ := newCall hC; obtain ⟨a0, a1, a2, f0, f1, f2, _⟩ := B1.f3; clear hC hF0; have HU := Lib.hid hu; obtain ⟨ao, cp, rfl, hml, hcl⟩ := hu.form; clear hu hcl; have HB1 := Lib.hid B1; clear B1) | (go_at_call 36; refine (HLo.out _).mono ?_; rintro e w2 ⟨rfl, hC2⟩; have HU2 := Lib.hid (HU.out.below hC2 (Nat.le_refl _)); have B2 := HB1.out.call hC2; obtain ⟨a0', a1', a2', f0', f1', f2', hz2⟩ := B2.f3; have HB2 := Lib.hid B2; clear B2; have hB2 := hB1.trans (hC2.mono (Nat.le_of_lt hz1)); clear hC2) | (go_at_call 48; ((with_reducible refine (HV1.out _ _ (HU2.out.below ((Below.refl _ _).alloc (Nat.le_refl _) _) (Nat.le_refl _))).mono ?_); rintro e w3 ⟨rfl, hC3⟩); have HU3 := Lib.hid (HU2.out.below (((Below.refl _ _).alloc (Nat.le_refl _) _).trans (hC3.mono (by rw [World.size_alloc]; omega))) (Nat.le_refl _)); obtain ⟨B3, hB3', hz3⟩ := newCall hC3; have C3 := HB2.out.below hB3' hz2; obtain ⟨d0, d1, d2, e0, e1, e2, _⟩ := C3.f3; obtain ⟨b0, b1, b2, g0, g1, g2, _⟩ := B3.f3; have HB3 := Lib.hid B3; have HC3 := Lib.hid C3; clear B3 C3 hC3; have hB3 := hB2.trans (hB3'.mono (Nat.le_of_lt hz2)); have hz13 : w.heap.size < w3.heap.size := Nat.lt_trans hz2 hz3; have hne : ¬ (w2.heap.size = w.heap.size) := Nat.ne_of_gt hz2) | (go_at_call 48; ((with_reducible refine (HV2.out _ _ (HU2.out.below (hB3'.setCell (Nat.le_refl _) _) (Nat.le_refl _))).mono ?_); rintro e w4 ⟨rfl, hC4⟩); have C4 : Blk w4 w.heap.size 34 #[.string ⟨#[]⟩, .int .i64 0, .string ⟨#[]⟩] := (HC3.out.far (Nat.ne_of_lt hz2) _).call hC4; have B4 : Blk w4 w2.heap.size 34 #[.string (bs lo), .int .i64 (-1), .string R] := (HB3.out.set_ 2 _).call hC4; obtain ⟨d0', d1', d2', e0', e1', e2', hz14⟩ := C4.f3; obtain ⟨b0', b1', b2', g0', g1', g2', hz24⟩ := B4.f3; have hB4 := hB3.trans (setCall hC4 (Nat.le_of_lt hz2) (Nat.le_of_lt hz13)).1; clear C4 B4 hC4) | (go_at_call 40; refine (HTK.out _).mono ?_; rintro e wx ⟨rfl, rfl⟩))
        refine bodyPost_ret (v := .tuple #[.agg #[.string (bs lo), .int .i64 (-1), .string R], .int .i64 0]) (by simp [results, Tryd.results18, go_sem, d0', d1', d2']) rfl ?_
        exact ⟨by rw [HE.out]; first | rfl | (unfold stV; simp), (by repeat (first | exact hB4 | (refine Below.alloc ?_ (by first | (simp; omega) | simp) _) | (refine Below.setCell ?_ (by first | exact Nat.le_refl _ | exact Nat.le_of_lt hz2) _)))⟩
      · go_enter Tryd.func18, Tryd.ntmps18
        go_wp2_with (first | (go_at_call 47; refine (HH.out _ (HM.out.below ((Below.refl _ _).alloc (Nat.le_refl _) _))).mono ?_; rintro e w1 ⟨u, rfl, hu, hF0, hC⟩; obtain ⟨B1, hB1, hz1⟩ := newCall hC; obtain ⟨a0, a1, a2, f0, f1, f2, _⟩ := B1.f3; clear hC hF0; have HU := Lib.hid hu; obtain ⟨ao, cp, rfl, hml, hcl⟩ := hu.form; clear hu hcl; have HB1 := Lib.hid B1; clear B1) | (go_at_call 36; refine (HLo.out _).mono ?_; rintro e w2 ⟨rfl, hC2⟩; have HU2 := Lib.hid (HU.out.below hC2 (Nat.le_refl _)); have B2 := HB1.out.call hC2; obtain ⟨a0', a1', a2', f0', f1', f2', hz2⟩ := B2.f3; have HB2 := Lib.hid B2; clear B2; have hB2 := hB1.trans (hC2.mono (Nat.le_of_lt hz1)); clear hC2) | (go_at_call 48; ((with_reducible refine (HV1.out _ _ (HU2.out.below ((Below.refl _ _).alloc (Nat.le_refl _) _) (Nat.le_refl _))).mono ?_); rintro e w3 ⟨rfl, hC3⟩); have HU3 := Lib.hid (HU2.out.below (((Below.refl _ _).alloc (Nat.le_refl _) _).trans (hC3.mono (by rw [World.size_alloc]; omega))) (Nat.le_refl _)); obtain ⟨B3, hB3', hz3⟩ := newCall hC3; have C3 := HB2.out.below hB3' hz2; obtain ⟨d0, d1, d2, e0, e1, e2, _⟩ := C3.f3; obtain ⟨b0, b1, b2, g0, g1, g2, _⟩ := B3.f3; have HB3 := Lib.hid B3; have HC3 := Lib.hid C3; clear B3 C3 hC3; have hB3 := hB2.trans (hB3'.mono (Nat.le_of_lt hz2)); have hz13 : w.heap.size < w3.heap.size := Nat.lt_trans hz2 hz3; have hne : ¬ (w2.heap.size = w.heap.size) := Nat.ne_of_gt hz2) | (go_at_call 48; ((with_reducible refine (HV2.out _ _ (HU2.out.below (hB3'.setCell (Nat.le_refl _) _) (Nat.le_refl _))).mono ?_); rintro e w4 ⟨rfl, hC4⟩); have C4 : Blk w4 w.heap.size 34 #[.string ⟨#[]⟩, .int .i64 0, .string ⟨#[]⟩] := (HC3.out.far (Nat.ne_of_lt hz2) _).call hC4; have B4 : Blk w4 w2.heap.size 34 #[.string (bs lo), .int .i64 (-1), .string R] := (HB3.out.set_ 2 _).call hC4; obtain ⟨d0', d1', d2', e0', e1', e2', hz14⟩ := C4.f3; obtain ⟨b0', b1', b2', g0', g1', g2', hz24⟩ := B4.f3; have hB4 := hB3.trans (setCall hC4 (Nat.le_of_lt hz2) (Nat.le_of_lt hz13)).1; clear C4 B4 hC4) | (go_at_call 40; refine (HTK.out _).mono ?_; rintro e wx ⟨rfl, rfl⟩) | (go_at_call 16; refine (HTM.out _).mono ?_; rintro e wx ⟨rfl, rfl⟩))
        refine bodyPost_ret (v := .tuple #[.agg #[.string ⟨#[]⟩, .int .i64 0, .string ⟨#[]⟩], .int .i64 82]) (by simp [results, Tryd.results18, go_sem, d0', d1', d2']) rfl ?_
        exact ⟨by rw [HE.out]; rfl, (by repeat (first | exact hB4 | (refine Below.alloc ?_ (by first | (simp; omega) | simp) _) | (refine Below.setCell ?_ (by first | exact Nat.le_refl _ | exact Nat.le_of_lt hz2) _)))⟩
      · go_enter Tryd.func18, Tryd.ntmps18
        go_wp2_with (first | (go_at_call 47; refine (HH.out _ (HM.out.below ((Below.refl _ _).alloc (Nat.le_refl _) _))).mono ?_; rintro e w1 ⟨u, rfl, hu, hF0, hC⟩; obtain ⟨B1, hB1, hz1⟩ := newCall hC; obtain ⟨a0, a1, a2, f0, f1, f2, _⟩ := B1.f3; clear hC hF0; have HU := Lib.hid hu; obtain ⟨ao, cp, rfl, hml, hcl⟩ := hu.form; clear hu hcl; have HB1 := Lib.hid B1; clear B1) | (go_at_call 36; refine (HLo.out _).mono ?_; rintro e w2 ⟨rfl, hC2⟩; have HU2 := Lib.hid (HU.out.below hC2 (Nat.le_refl _)); have B2 := HB1.out.call hC2; obtain ⟨a0', a1', a2', f0', f1', f2', hz2⟩ := B2.f3; have HB2 := Lib.hid B2; clear B2; have hB2 := hB1.trans (hC2.mono (Nat.le_of_lt hz1)); clear hC2) | (go_at_call 48; ((with_reducible refine (HV1.out _ _ (HU2.out.below ((Below.refl _ _).alloc (Nat.le_refl _) _) (Nat.le_refl _))).mono ?_); rintro e w3 ⟨rfl, hC3⟩); have HU3 := Lib.hid (HU2.out.below (((Below.refl _ _).alloc (Nat.le_refl _) _).trans (hC3.mono (by rw [World.size_alloc]; omega))) (Nat.le_refl _)); obtain ⟨B3, hB3', hz3⟩ := newCall hC3; have C3 := HB2.out.below hB3' hz2; obtain ⟨d0, d1, d2, e0, e1, e2, _⟩ := C3.f3; obtain ⟨b0, b1, b2, g0, g1, g2, _⟩ := B3.f3; have HB3 := Lib.hid B3; have HC3 := Lib.hid C3; clear B3 C3 hC3; have hB3 := hB2.trans (hB3'.mono (Nat.le_of_lt hz2)); have hz13 : w.heap.size < w3.heap.size := Nat.lt_trans hz2 hz3; have hne : ¬ (w2.heap.size = w.heap.size) := Nat.ne_of_gt hz2) | (go_at_call 48; ((with_reducible refine (HV2.out _ _ (HU2.out.below (hB3'.setCell (Nat.le_refl _) _) (Nat.le_refl _))).mono ?_); rintro e w4 ⟨rfl, hC4⟩); have C4 : Blk w4 w.heap.size 34 #[.string ⟨#[]⟩, .int .i64 0, .string ⟨#[]⟩] := (HC3.out.far (Nat.ne_of_lt hz2) _).call hC4; have B4 : Blk w4 w2.heap.size 34 #[.string (bs lo), .int .i64 (-1), .string R] := (HB3.out.set_ 2 _).call hC4; obtain ⟨d0', d1', d2', e0', e1', e2', hz14⟩ := C4.f3; obtain ⟨b0', b1', b2', g0', g1', g2', hz24⟩ := B4.f3; have hB4 := hB3.trans (setCall hC4 (Nat.le_of_lt hz2) (Nat.le_of_lt hz13)).1; clear C4 B4 hC4) | (go_at_call 40; refine (HTK.out _).mono ?_; rintro e wx ⟨rfl, rfl⟩) | (go_at_call 16; refine (HTM.out _).mono ?_; rintro e wx ⟨rfl, rfl⟩))
        refine bodyPost_ret (v := .tuple #[.agg #[.string (bs lo), .int .i64 tn, .string R], .int .i64 0]) (by simp [results, Tryd.results18, go_sem, d0', d1', d2']) rfl ?_
        exact ⟨by rw [HE.out]; first | rfl | (unfold stV; simp), (by repeat (first | exact hB4 | (refine Below.alloc ?_ (by first | (simp; omega) | simp) _) | (refine Below.setCell ?_ (by first | exact Nat.le_refl _ | exact Nat.le_of_lt hz2) _)))⟩

end Go.Proofs.YteiafgoigfehgaaDoor
