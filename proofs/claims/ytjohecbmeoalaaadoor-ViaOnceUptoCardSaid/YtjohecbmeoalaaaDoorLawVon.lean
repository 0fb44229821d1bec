/-
  The law ViaOnce: the walk.
-/
import Derived.Test.YtjohecbmeoalaaaDoorAwake7
namespace Go.Proofs.YtjohecbmeoalaaaDoor
open Go.RowKit Go.Sort

set_option maxRecDepth 100000 in
set_option maxHeartbeats 12800000 in
theorem viaOnce_walk (s : ByteArray) (hs : s.size ≤ 1048576) (w : World) (hm : Ml w) :
    Calls Tryd.prog 7 #[.string s] w fun e w' => e = .returned (.bool true) ∧ Below w.heap.size w w' := by
  have HM := Lib.hid hm
  have HA := Lib.hid (fun wx hx => awake_c wx hx)
  have HP := Lib.hid (fun wx hx => parseV_c s (by omega) wx hx)
  unfold HopPost at HP
  have hok := parseV_ok (us s)
  obtain ⟨r, hr⟩ : ∃ r, r = parseV (us s) := ⟨_, rfl⟩
  rw [← hr] at HP hok
  clear hr hm
  obtain ⟨v, c⟩ := r
  dsimp only at HP hok
  by_cases hc : c = 0
  case neg =>
    obtain rfl := hok.2 hc
    have t0 : (c != 0) = true := by simpa using hc
    unfold hop0 sv bs at HP
    dsimp only at HP
    clear hok hc
    go_enter Tryd.func7, Tryd.ntmps7
    go_wp2_with (first | (go_at_call 10; refine (HP.out _ HM.out).mono ?_; rintro e w1 ⟨u1, rfl, hu1, _, hB1⟩; obtain ⟨a1, c1, rfl, _, _⟩ := hu1.form; (try dsimp only [List.length_nil]); have hZ := hB1.alloc hB1.size (.cells #[.string ⟨#[]⟩, .int .i64 0, .slice a1 0 c1] 25); have hMM := HM.out.below hZ; have bm := Blk.new w1 25 #[.string ⟨#[]⟩, .int .i64 0, .slice a1 0 c1]; obtain ⟨p0, p1, p2, _, _, _, _⟩ := bm.f3) | (go_at_call 9; refine (HA.out _ hMM).mono ?_; rintro e wz ⟨rfl, hCz⟩))
    go_ret
    exact ⟨rfl, hZ.trans (hCz.mono hZ.size)⟩
  subst hc
  have hck := hok.1 rfl
  obtain ⟨b1, b2, b3, b4⟩ := check_bd v hck
  have htl := textV_len v hck
  have hpb := parse_back v hck
  have hpr : printV v = (textV v, 0) := by unfold printV; rw [if_pos hck]
  clear hok
  obtain ⟨H, hH⟩ : ∃ H, H = bs v.host := ⟨_, rfl⟩
  have uH : us H = v.host := by rw [hH, us_bs]
  have sH : H.size ≤ 64 := by rw [hH, size_bs]; exact b1
  have HPr := Lib.hid (fun wx u hx hv => printV_c H v.port u v.ps (by omega) (by omega) (by omega) wx hx hv (fun p hp => by have := b4 p hp; omega))
  have HCk := Lib.hid (fun wx u hx hv => checkV_c H v.port u v.ps (by omega) wx hx hv (fun p hp => by have := b4 p hp; omega))
  rw [uH] at HPr HCk
  have eta : (⟨v.host, v.port, v.ps⟩ : Hop) = v := rfl
  rw [eta] at HPr HCk
  rw [hpr] at HPr
  rw [hck] at HCk
  dsimp only at HPr
  obtain ⟨TX, hTX⟩ : ∃ TX, TX = bs (textV v) := ⟨_, rfl⟩
  have uT : us TX = textV v := by rw [hTX, us_bs]
  rw [← hTX] at HPr
  have HQ := Lib.hid (fun wx hx => parseV_c TX (by rw [hTX, size_bs]; omega) wx hx)
  unfold HopPost at HQ
  rw [uT, hpb] at HQ
  dsimp only at HQ
  unfold sv at HP HQ
  rw [← hH] at HP HQ
  have HS := Lib.hid (fun wx u u' h1 h2 => same_yes H v.port v.ps u u' wx h1 h2)
  obtain ⟨q, hq⟩ : ∃ q, q = v.port := ⟨_, rfl⟩
  clear hck b1 b2 b3 b4 htl hpb hpr hH uH sH eta hTX uT hq hs
  go_enter Tryd.func7, Tryd.ntmps7
  go_wp2_with (first | (go_at_call 10; refine (HQ.out _ hMM).mono ?_; rintro e w3 ⟨u3, rfl, hu3, _, hC3⟩; obtain ⟨a2, c2, rfl, _, _⟩ := hu3.form; have hC3a := hC3.alloc hC3.size (.cells #[.string H, .int .i64 v.port, .slice a2 v.ps.length c2] 25); have bm := bm.call hC3a; have hZ := hZ.trans (hC3a.mono hZ.size); have hMM := HM.out.below hZ; have hUU := hUU.below hC3a (Nat.le_refl _); have hVV := hu3.below ((Below.refl _ _).alloc (Nat.le_refl _) (.cells #[.string H, .int .i64 v.port, .slice a2 v.ps.length c2] 25)) (Nat.le_refl _); clear hu3; have bn := Blk.new w3 25 #[.string H, .int .i64 v.port, .slice a2 v.ps.length c2]; obtain ⟨p0, p1, p2, _, _, _, _⟩ := bm.f3; obtain ⟨n0, n1, n2, _, _, _, _⟩ := bn.f3) | (go_at_call 10; refine (HP.out _ HM.out).mono ?_; rintro e w1 ⟨u1, rfl, hu1, _, hB1⟩; obtain ⟨a1, c1, rfl, _, _⟩ := hu1.form; have hZ := hB1.alloc hB1.size (.cells #[.string H, .int .i64 v.port, .slice a1 v.ps.length c1] 25); have hMM := HM.out.below hZ; have hUU := hu1.below ((Below.refl _ _).alloc (Nat.le_refl _) (.cells #[.string H, .int .i64 v.port, .slice a1 v.ps.length c1] 25)) (Nat.le_refl _); clear hu1; have bm := Blk.new w1 25 #[.string H, .int .i64 v.port, .slice a1 v.ps.length c1]; obtain ⟨p0, p1, p2, _, _, _, _⟩ := bm.f3) | (go_at_call 16; refine (HPr.out _ _ hMM hUU).mono ?_; rintro e w2 ⟨rfl, hC2⟩; have hZ := hZ.trans (hC2.mono hZ.size); have hMM := HM.out.below hZ; have hUU := hUU.below hC2 (Nat.le_refl _); have bm := bm.call hC2; obtain ⟨p0, p1, p2, _, _, _, _⟩ := bm.f3) | (go_at_call 12; refine (HS.out _ _ _ hUU hVV).mono ?_; rintro e w5 ⟨rfl, hC5⟩; have bm := bm.call hC5; have bn := bn.call hC5; have hZ := hZ.trans (hC5.mono hZ.size); have hMM := HM.out.below hZ; have hUU := hUU.below hC5 (Nat.le_refl _); obtain ⟨p0, p1, p2, _, _, _, _⟩ := bm.f3; obtain ⟨n0, n1, n2, _, _, _, _⟩ := bn.f3) | (go_at_call 20; refine (HCk.out _ _ hMM hUU).mono ?_; rintro e w4 ⟨rfl, hC4⟩; have hZ := hZ.trans (hC4.mono hZ.size); have hMM := HM.out.below hZ) | (go_at_call 9; refine (HA.out _ hMM).mono ?_; rintro e wz ⟨rfl, hCz⟩))
  go_ret
  exact ⟨rfl, hZ.trans (hCz.mono hZ.size)⟩

end Go.Proofs.YtjohecbmeoalaaaDoor
