/-
  The law FrameOnce: the walk.
-/
import Derived.Test.YtgpbnbaegghajaaDoorLawBak
import Derived.Test.YtgpbnbaegghajaaDoorPbd
namespace Go.Proofs.YtgpbnbaegghajaaDoor
open Go.RowKit

theorem print_two (m : Mg) (h : checkS m = 0) (h2 : (printM m).2 ≠ 0) : (printM m).2 = 2 := by
  unfold printM at h2 ⊢
  rw [if_neg (fun e => e h)] at h2 ⊢
  by_cases h3 : 4096 < (textM m).length
  · rw [if_pos h3]
  · rw [if_neg h3] at h2; exact absurd rfl h2

set_option maxRecDepth 100000 in
set_option maxHeartbeats 12800000 in
theorem frameOnce_walk (ao : Option Addr) (n cap : Nat) (B : ByteArray) (hB : B.size ≤ 9223372036854775807) (w : World) (hm : Ml w) (hb : RByt Tryd.prog 22 w (.slice ao n cap) B) :
    Calls Tryd.prog 7 #[.slice ao n cap] w fun e w' => e = .returned (.bool true) ∧ Below w.heap.size w w' := by
  have HM := Lib.hid hm
  have HA := Lib.hid (fun wx hx => awake_c wx hx)
  have hc1 := hb w (Below.refl _ _) 9 Tryd.underlying9
  have HP := Lib.hid (fun wx hx => parse_c B (by omega) wx hx)
  unfold ParsePost at HP
  have hok := parse_ok (us B)
  have hbd := parse_bd (us B)
  clear hm hb
  obtain ⟨r, hr⟩ : ∃ r, r = parseS (us B) := ⟨_, rfl⟩
  rw [← hr] at HP hok hbd
  clear hr
  obtain ⟨m, c⟩ := r
  dsimp only at HP hok hbd
  by_cases hc : c = 0
  case neg =>
    obtain rfl := hok.2 hc
    have t0 : (c != 0) = true := by simpa using hc
    have HP := Lib.hid (fun wx (hx : Ml wx) => (show Calls Tryd.prog 9 #[.string B] wx fun e w' => ∃ a1 c1, e = .returned (.tuple #[.agg #[.string ⟨#[]⟩, .string ⟨#[]⟩, .int .i64 0, .string ⟨#[]⟩, .slice a1 0 c1, .string ⟨#[]⟩], .int .i64 c]) ∧ Below wx.heap.size wx w' from by
      refine (HP.out wx hx).mono ?_
      rintro e w1 ⟨u1, rfl, hu1, _, hB1⟩
      obtain ⟨a1, c1, rfl, _, _⟩ := hu1.form
      exact ⟨a1, c1, rfl, hB1⟩))
    clear hok hbd hc
    go_enter Tryd.func7, Tryd.ntmps7
    go_wp2_with (first | (go_at_call 9; refine (HP.out _ HM.out).mono ?_; rintro e w1 ⟨a1, c1, rfl, hB1⟩; have hZ := hB1.alloc hB1.size (.cells #[.string ⟨#[]⟩, .string ⟨#[]⟩, .int .i64 0, .string ⟨#[]⟩, .slice a1 0 c1, .string ⟨#[]⟩] 25); have hMM := HM.out.below hZ; obtain ⟨p0, p1, p2, p3, p4, p5⟩ := (Blk.new w1 25 #[.string ⟨#[]⟩, .string ⟨#[]⟩, .int .i64 0, .string ⟨#[]⟩, .slice a1 0 c1, .string ⟨#[]⟩]).f6) | (go_at_call 12; refine (HA.out _ hMM).mono ?_; rintro e wz ⟨rfl, hCz⟩))
    go_ret
    exact ⟨rfl, hZ.trans (hCz.mono hZ.size)⟩
  subst hc
  have hck := hok.1 rfl
  obtain ⟨b1, b2, b3, b4, b5⟩ := hbd
  have hst := check_status m hck
  have hpr := printM_cases m
  have hbk := parse_print m hck []
  rw [List.append_nil] at hbk
  clear hok
  have HPr := Lib.hid (fun wx u hu => printF_c (bs m.method) (bs m.target) (bs m.reason) (bs m.body) m.status u m.hdrs (by rw [size_bs]; omega) (by rw [size_bs]; omega) (by rw [size_bs]; omega) (by rw [size_bs]; omega) (by omega) (by omega) wx hu (fun h hh => by have := b5 h hh; omega))
  have HCk := Lib.hid (fun wx u hu => check_c (bs m.method) (bs m.target) (bs m.reason) (bs m.body) m.status u m.hdrs (by rw [size_bs]; omega) (by rw [size_bs]; omega) (by rw [size_bs]; omega) wx hu (fun h hh => by have := b5 h hh; omega))
  simp only [us_bs] at HPr HCk
  have eta : (⟨m.method, m.target, m.status, m.reason, m.hdrs, m.body⟩ : Mg) = m := rfl
  rw [eta] at HPr HCk
  rw [hck] at HCk
  have HSm := Lib.hid (fun wx u v hu hv => (show Calls Tryd.prog 11 #[mgv m u, mgv m v] wx fun e w' => e = .returned (.bool true) ∧ Below wx.heap.size wx w' from by have := sameM_c u v m m wx hu hv; rw [beq_self_eq_true] at this; exact this))
  have HQ := Lib.hid (fun (s : ByteArray) (hs : s.size ≤ 4096) wx hx => parse_c s (by omega) wx hx)
  unfold ParsePost at HQ
  unfold mgv sv at HP HSm
  obtain ⟨TX, hTX⟩ : ∃ TX, TX = bs (textM m) := ⟨_, rfl⟩
  have uT : us TX = textM m := by rw [hTX, us_bs]
  have HQ := Lib.hid (fun (h : (textM m).length ≤ 4096) wx hx => (show Calls Tryd.prog 9 #[.string TX] wx fun e w' => ∃ u, e = .returned (.tuple #[.agg #[.string (bs m.method), .string (bs m.target), .int .i64 m.status, .string (bs m.reason), u, .string (bs m.body)], .int .i64 0]) ∧ RHdrs w' u m.hdrs ∧ Below wx.heap.size wx w' from by
    refine (HQ.out TX (by rw [← length_us, uT]; exact h) wx hx).mono ?_
    rw [uT, hbk h]
    rintro e w' ⟨u, rfl, h1, _, h2⟩
    exact ⟨u, rfl, h1, h2⟩))
  obtain ⟨MM, hMM⟩ : ∃ x, x = bs m.method := ⟨_, rfl⟩
  obtain ⟨TT, hTT⟩ : ∃ x, x = bs m.target := ⟨_, rfl⟩
  obtain ⟨RR, hRR⟩ : ∃ x, x = bs m.reason := ⟨_, rfl⟩
  obtain ⟨BB, hBB⟩ : ∃ x, x = bs m.body := ⟨_, rfl⟩
  rw [← hMM, ← hTT, ← hRR, ← hBB] at HP HPr HCk HSm HQ
  clear hMM hTT hRR hBB b1 b2 b3 b4 b5 hst hbk uT
  have hE : bs [] = ⟨#[]⟩ := rfl
  rcases hpr with ⟨q1, q2⟩ | ⟨q1, _, q3⟩
  · rw [q1, hE] at HPr
    obtain ⟨C, hC⟩ : ∃ C, C = (printM m).2 := ⟨_, rfl⟩
    have hC2 : C = 2 := by rw [hC]; exact print_two m hck q2
    rw [← hC, hC2] at HPr
    clear hE hC q1 q2 hC2 hTX hck
    go_enter Tryd.func7, Tryd.ntmps7
    go_wp2_with (first | (go_at_call 9; refine (HP.out _ HM.out).mono ?_; rintro e w1 ⟨u1, rfl, hu1, _, hB1⟩; obtain ⟨a1, c1, rfl, _, _⟩ := hu1.form; have hZ := hB1.alloc hB1.size (.cells #[.string MM, .string TT, .int .i64 m.status, .string RR, .slice a1 m.hdrs.length c1, .string BB] 25); have hMM := HM.out.below hZ; have hUU := hu1.below ((Below.refl _ _).alloc (Nat.le_refl _) (.cells #[.string MM, .string TT, .int .i64 m.status, .string RR, .slice a1 m.hdrs.length c1, .string BB] 25)) (Nat.le_refl _); clear hu1; obtain ⟨p0, p1, p2, p3, p4, p5⟩ := (Blk.new w1 25 #[.string MM, .string TT, .int .i64 m.status, .string RR, .slice a1 m.hdrs.length c1, .string BB]).f6) | (go_at_call 19; refine (HPr.out _ _ hUU).mono ?_; rintro e w2 ⟨rfl, hC2⟩; have hZ := hZ.trans (hC2.mono hZ.size); have hMM := HM.out.below hZ) | (go_at_call 12; refine (HA.out _ hMM).mono ?_; rintro e wz ⟨rfl, hCz⟩))
    go_ret
    exact ⟨rfl, hZ.trans (hCz.mono hZ.size)⟩
  · rw [q1] at HPr
    dsimp only at HPr
    rw [← hTX] at HPr
    clear hTX hE q1 hck
    go_enter Tryd.func7, Tryd.ntmps7
    go_wp2_with (first | (go_at_call 9; refine (HQ.out q3 _ hMM).mono ?_; rintro e w3 ⟨u3, rfl, hu3, hC3⟩; obtain ⟨a3, c3, rfl, _, _⟩ := hu3.form; have hC3a := hC3.alloc hC3.size (.cells #[.string MM, .string TT, .int .i64 m.status, .string RR, .slice a3 m.hdrs.length c3, .string BB] 25); have bm := bm.call hC3a; have hZ := hZ.trans (hC3a.mono hZ.size); have hMM := HM.out.below hZ; have hUU := hUU.below hC3a (Nat.le_refl _); have hVV := hu3.below ((Below.refl _ _).alloc (Nat.le_refl _) (.cells #[.string MM, .string TT, .int .i64 m.status, .string RR, .slice a3 m.hdrs.length c3, .string BB] 25)) (Nat.le_refl _); clear hu3; have bn := Blk.new w3 25 #[.string MM, .string TT, .int .i64 m.status, .string RR, .slice a3 m.hdrs.length c3, .string BB]; obtain ⟨p0, p1, p2, p3, p4, p5⟩ := bm.f6; obtain ⟨n0, n1, n2, n3, n4, n5⟩ := bn.f6) | (go_at_call 9; refine (HP.out _ HM.out).mono ?_; rintro e w1 ⟨u1, rfl, hu1, _, hB1⟩; obtain ⟨a1, c1, rfl, _, _⟩ := hu1.form; have hZ := hB1.alloc hB1.size (.cells #[.string MM, .string TT, .int .i64 m.status, .string RR, .slice a1 m.hdrs.length c1, .string BB] 25); have hUU := hu1.below ((Below.refl _ _).alloc (Nat.le_refl _) (.cells #[.string MM, .string TT, .int .i64 m.status, .string RR, .slice a1 m.hdrs.length c1, .string BB] 25)) (Nat.le_refl _); clear hu1; have bm := Blk.new w1 25 #[.string MM, .string TT, .int .i64 m.status, .string RR, .slice a1 m.hdrs.length c1, .string BB]; obtain ⟨p0, p1, p2, p3, p4, p5⟩ := bm.f6) | (go_at_call 19; refine (HPr.out _ _ hUU).mono ?_; rintro e w2 ⟨rfl, hC2⟩; have hZ := hZ.trans (hC2.mono hZ.size); have hMM := HM.out.below hZ; have hUU := hUU.below hC2 (Nat.le_refl _); have bm := bm.call hC2; obtain ⟨p0, p1, p2, p3, p4, p5⟩ := bm.f6) | (go_at_call 21; refine (HCk.out _ _ hUU).mono ?_; rintro e w4 ⟨rfl, hC4⟩; have bm := bm.call hC4; have bn := bn.call hC4; have hZ := hZ.trans (hC4.mono hZ.size); have hMM := HM.out.below hZ; have hUU := hUU.below hC4 (Nat.le_refl _); have hVV := hVV.below hC4 (Nat.le_refl _); obtain ⟨p0, p1, p2, p3, p4, p5⟩ := bm.f6; obtain ⟨n0, n1, n2, n3, n4, n5⟩ := bn.f6) | (go_at_call 11; refine (HSm.out _ _ _ hUU hVV).mono ?_; rintro e w5 ⟨rfl, hC5⟩; have hZ := hZ.trans (hC5.mono hZ.size); have hMM := HM.out.below hZ) | (go_at_call 12; refine (HA.out _ hMM).mono ?_; rintro e wz ⟨rfl, hCz⟩))
    go_ret
    exact ⟨rfl, hZ.trans (hCz.mono hZ.size)⟩

end Go.Proofs.YtgpbnbaegghajaaDoor
