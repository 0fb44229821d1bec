/-
  addr.List.
-/
import Derived.Test.YtjpmfcipjaeemaaDoorApa
import Derived.Test.YtjpmfcipjaeemaaDoorRad
namespace Go.Proofs.YtjpmfcipjaeemaaDoor
set_option linter.unusedSimpArgs false
set_option linter.unusedVariables false
open Go.RowKit

theorem listA_long (l : List UInt8) (h : 16 < (parts l 44).length) : listA l = ([], 4) := if_pos h
theorem listA_go (l : List UInt8) (h : ¬ 16 < (parts l 44).length) : listA l = adrsGo [] (parts l 44) := if_neg h

set_option maxRecDepth 100000 in
set_option maxHeartbeats 12800000 in
theorem listA_c (s : ByteArray) (hs : s.size ≤ 4294967280) (w : World) (hm : Ml w) :
    Calls Tryd.prog 16 #[.string s] w fun e w' => ∃ v, e = .returned (.tuple #[v, .int .i64 (listA (us s)).2]) ∧ RAdrs w' v (listA (us s)).1 ∧ Below w.heap.size w w' := by
  have HM := Lib.hid hm
  clear hm
  have HPC := Lib.hid (fun wx => parts_c s (by omega) 44 wx)
  have HLo := Lib.hid (listA_long (us s))
  have HGo := Lib.hid (listA_go (us s))
  have hPb : ∀ y ∈ parts (us s) 44, y.length ≤ 4294967280 := fun y hy => Nat.le_trans (parts_bd 44 (us s) y hy) (by rw [length_us]; exact hs)
  obtain ⟨Ps, hPs⟩ : ∃ P, P = parts (us s) 44 := ⟨_, rfl⟩
  rw [← hPs] at HPC HLo HGo hPb
  have HPBD := Lib.hid hPb
  obtain ⟨Q, hQ⟩ : ∃ Q, Q = listA (us s) := ⟨_, rfl⟩
  rw [← hQ] at HLo HGo ⊢
  clear hQ hPs hPb
  have hB0 : Below w.heap.size w w := Below.refl _ _
  by_cases h16 : 16 < Ps.length
  · have HE := Lib.hid (HLo.out h16)
    go_enter Tryd.func16, Tryd.ntmps16
    go_wp2_with (go_at_call 40; refine (HPC.out _).mono ?_; rintro e w1 ⟨va, rfl, hva, hC1⟩; have HB1 := Lib.hid hC1; obtain ⟨ao, cap, rfl, hm1, c1⟩ := hva.form; clear c1 hva hC1; unfold maxLen at hm1)
    go_ret2
    exact ⟨_, by rw [HE.out]; rfl, by rw [HE.out]; exact RAdrs.nil _, HB1.out⟩
  have HE := Lib.hid (HGo.out h16)
  clear HLo HGo
  go_enter Tryd.func16, Tryd.ntmps16
  go_wp2_with (go_at_call 40; refine (HPC.out _).mono ?_; rintro e w1 ⟨va, rfl, hva, hC1⟩; have HB1 := Lib.hid hC1; obtain ⟨ao, cap, rfl, hm1, c1⟩ := hva.form; have C1 := Lib.hid c1; clear c1 hva hC1; unfold maxLen at hm1)
  go_loopw [5, 17] (fun v i wr => ∃ (k : Nat) (R : List AdrU), k ≤ Ps.length ∧ i = .int .i64 k ∧ Adrs wr w1.heap.size v R ∧ Hid (Below w1.heap.size w1 wr) ∧ R.length = k ∧ Hid (adrsGo [] Ps = adrsGo (R.map Prod.fst) (Ps.drop k))) (fun _ i _ => Ps.length - (intOf i).toNat)
  case atStart => exact ⟨0, [], Nat.zero_le _, rfl, Adrs.nil _ _, Lib.hid (Below.refl _ _), rfl, Lib.hid rfl⟩
  case round =>
    obtain ⟨k, R, hk, rfl, hown, HB, hR, HP⟩ := hrel
    by_cases hlt : k < Ps.length
    · obtain ⟨b, off, rfl, hb1, hc1⟩ := C1.out (by omega)
      have x0 : wr.cell? ⟨b, off + k, none⟩ = some (.string (bs Ps[k])) := (HB.out.cell (p := ⟨b, off + k, none⟩) hb1).trans (hc1 k hlt)
      have hpk := HPBD.out Ps[k] (List.getElem_mem hlt)
      have HPA := Lib.hid (fun wx hx => parseA_c (bs Ps[k]) (by rw [size_bs]; omega) wx hx)
      rw [us_bs] at HPA
      unfold AdrPost at HPA
      have hst : adrsGo [] Ps = if (parseA Ps[k]).2 ≠ 0 then ([], (parseA Ps[k]).2) else adrsGo (R.map Prod.fst ++ [(parseA Ps[k]).1]) (Ps.drop (k + 1)) := by
        rw [HP.out, List.drop_eq_getElem_cons hlt, adrsGo]
      obtain ⟨y, hy⟩ : ∃ y, y = parseA Ps[k] := ⟨_, rfl⟩
      rw [← hy] at HPA hst
      obtain ⟨S2, hS2⟩ : ∃ S2, S2 = bs Ps[k] := ⟨_, rfl⟩
      rw [← hS2] at x0 HPA
      clear hy hS2 hpk HP hc1
      obtain ⟨⟨d, ⟨sc, ur, ho, n, F, G⟩, L⟩, c⟩ := y
      obtain ⟨D, rfl⟩ : ∃ D, d = us D := ⟨bs d, (us_bs d).symm⟩
      obtain ⟨S, rfl⟩ : ∃ D, sc = us D := ⟨bs sc, (us_bs sc).symm⟩
      obtain ⟨U, rfl⟩ : ∃ D, ur = us D := ⟨bs ur, (us_bs ur).symm⟩
      obtain ⟨H, rfl⟩ : ∃ D, ho = us D := ⟨bs ho, (us_bs ho).symm⟩
      dsimp only at HPA hst
      unfold sv at HPA
      rw [bs_us, bs_us, bs_us, bs_us] at HPA
      have k0 : (0 : Int) ≤ (k : Int) := by omega
      have k1 : (k : Int) < (Ps.length : Int) := by omega
      by_cases hc : c = 0
      · subst hc
        rw [if_neg (fun h => h rfl)] at hst
        have HST := Lib.hid hst
        clear hst
        go_wp2_with (first | (go_at_call 14; refine (HPA.out _ (HM.out.below (HB1.out.trans (HB.out.mono HB1.out.size)))).mono ?_; rintro e w3 ⟨u1, u2, u3, rfl, g1, g2, g3, j1, j2, j3, hC3⟩; obtain ⟨o1, c1, rfl, _, _⟩ := g1.form; obtain ⟨o2, c2, rfl, _, _⟩ := g2.form; obtain ⟨o3, c3, rfl, _, _⟩ := g3.form; have f1 := hown.free (q := F) j1 (Nat.le_refl _); have f2 := hown.free (q := G) j2 (Nat.le_refl _); have f3 := hown.free (q := L) j3 (Nat.le_refl _); have hC := hC3.alloc hC3.size (.cells #[.string D, .string S, .string U, .string H, .int .i64 n, .slice o1 F.length c1, .slice o2 G.length c2, .slice o3 L.length c3] 39); have hB := HB.out.trans (hC.mono HB.out.size); replace hown := hown.below hC (Nat.le_refl _); have hN := (Below.refl w3.heap.size w3).alloc (Nat.le_refl _) (.cells #[.string D, .string S, .string U, .string H, .int .i64 n, .slice o1 F.length c1, .slice o2 G.length c2, .slice o3 L.length c3] 39); replace g1 := g1.below hN (Nat.le_refl _); replace g2 := g2.below hN (Nat.le_refl _); replace g3 := g3.below hN (Nat.le_refl _); obtain ⟨n0, n1, n2, n3, n4, n5, n6, n7, _, _, _, _, _, _, _, _, _⟩ := blk_h8 (Blk.new w3 39 #[.string D, .string S, .string U, .string H, .int .i64 n, .slice o1 F.length c1, .slice o2 G.length c2, .slice o3 L.length c3])) | (at_builtin; refine wpList_appA rfl rfl Tryd.underlying46 infoA (by rw [World.size_alloc]; rfl) rfl hown g1 g2 g3 f1 f2 f3 hB (Nat.le_refl _) ?_ ?_; (focus omega); intro v1 w4 ho1 hb1))
        go_roundw
        case rel => exact ⟨k + 1, _, by omega, by go_num, ho1, Lib.hid hb1, by rw [List.length_append, hR]; rfl, Lib.hid (by rw [HST.out]; simp only [List.map_append, List.map_cons, List.map_nil])⟩
        case measure => simp [intOf]; omega
      · rw [if_pos hc] at hst
        have t0 : (c != 0) = true := by simpa using hc
        have HF := Lib.hid (HE.out.trans hst)
        clear hst hc
        go_wp2_with ((go_at_call 14; refine (HPA.out _ (HM.out.below (HB1.out.trans (HB.out.mono HB1.out.size)))).mono ?_; rintro e w3 ⟨u1, u2, u3, rfl, g1, g2, g3, j1, j2, j3, hC3⟩; obtain ⟨o1, c1, rfl, _, _⟩ := g1.form; obtain ⟨o2, c2, rfl, _, _⟩ := g2.form; obtain ⟨o3, c3, rfl, _, _⟩ := g3.form; have hC := hC3.alloc hC3.size (.cells #[.string D, .string S, .string U, .string H, .int .i64 n, .slice o1 F.length c1, .slice o2 G.length c2, .slice o3 L.length c3] 39); have hB := HB.out.trans (hC.mono HB.out.size)))
        go_ret2
        exact ⟨_, by rw [HF.out]; rfl, by rw [HF.out]; exact RAdrs.nil _, HB1.out.trans (hB.mono HB1.out.size)⟩
    · have HF := Lib.hid (show Q = (R.map Prod.fst, 0) by rw [HE.out, HP.out, List.drop_eq_nil_iff.2 (by omega)]; rfl)
      clear HP
      go_wp2
      go_ret2
      exact ⟨_, by rw [HF.out]; rfl, by rw [HF.out]; exact hown.read, HB1.out.trans (HB.out.mono HB1.out.size)⟩

end Go.Proofs.YtjpmfcipjaeemaaDoor
