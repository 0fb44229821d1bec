/- Contracts of Go functions, and plain laws. No condition but those told. -/
import Derived.Test.YtgkilllbkljibaaGreatDoorRav
set_option linter.unusedSimpArgs false
set_option linter.unusedVariables false
set_option maxRecDepth 100000
namespace Go.Proofs.YtgkilllbkljibaaGreatDoor
open Go.RowKit Go.Sort
set_option maxRecDepth 100000 in
set_option maxHeartbeats 12800000 in
theorem listAR_f (s : ByteArray) (hs : s.size ≤ 4294967280) (w : World) :
  Calls Tryz.prog 99 #[.string s] w fun e w' => ∃ v, e = .returned (.tuple #[v, .int .i64 (listA (us s)).2]) ∧ RAdrsF w.heap.size w' v (listA (us s)).1 ∧ Below w.heap.size w w' := by
 have HPC := κ (fun wx => partsR_c s hs 44 wx)
 have HLo := κ (listA_long (us s))
 have HGo := κ (listA_go (us s))
 have hPb : ∀ y ∈ parts (us s) 44, y.length ≤ 4294967280 := fun y hy => Nat.le_trans (parts_bd 44 (us s) y hy) (by rw [length_us]; exact hs)
 obtain ⟨Ps, hPs⟩ : ∃ P, P = parts (us s) 44 := ⟨_, rfl⟩
 rw [← hPs] at HPC HLo HGo hPb
 have HPBD := κ hPb
 obtain ⟨Q, hQ⟩ : ∃ Q, Q = listA (us s) := ⟨_, rfl⟩
 rw [← hQ] at HLo HGo ⊢
 clear hQ hPs hPb
 have hB0 : Below w.heap.size w w := Below.refl _ _
 by_cases h16 : 16 < Ps.length
 ·have HE := κ (HLo.out h16)
  go_enter Tryz.func99, Tryz.ntmps99
  go_wp2_with (go_at_call 101; refine (HPC.out _).mono ?_; rintro e w1 ⟨va, rfl, hva, hC1⟩; have HB1 := κ hC1; obtain ⟨ao, cap, rfl, hm1, c1⟩ := hva.form; clear c1 hva hC1; unfold maxLen at hm1)
  go_ret2
  exact ⟨_, by rw [HE.out]; rfl, by rw [HE.out]; exact RAdrsF.nil _ _, HB1.out⟩
 have HE := κ (HGo.out h16)
 clear HLo HGo
 go_enter Tryz.func99, Tryz.ntmps99
 go_wp2_with (go_at_call 101; refine (HPC.out _).mono ?_; rintro e w1 ⟨va, rfl, hva, hC1⟩; have HB1 := κ hC1; obtain ⟨ao, cap, rfl, hm1, c1⟩ := hva.form; have C1 := κ c1; clear c1 hva hC1; unfold maxLen at hm1)
 go_loopw [5, 6] (fun v i wr => ∃ (k : Nat) (R : List AdrU), k ≤ Ps.length ∧ i = .int .i64 k ∧ Adrs wr w1.heap.size v R ∧ Hid (Below w1.heap.size w1 wr) ∧ R.length = k ∧ Hid (FrU w1.heap.size R) ∧ Hid (adrsGo [] Ps = adrsGo (R.map Prod.fst) (Ps.drop k))) (fun _ i _ => Ps.length - (intOf i).toNat)
 case atStart => exact ⟨0, [], Nat.zero_le _, rfl, Adrs.nil _ _, κ (Below.refl _ _), rfl, κ (fun r hr => by cases hr), κ rfl⟩
 case round =>
  obtain ⟨k, R, hk, rfl, hown, HB, hR, HU, HP⟩ := hrel
  by_cases hlt : k < Ps.length
  ·obtain ⟨b, off, rfl, hb1, hc1⟩ := C1.out (by omega)
   have x0 : wr.cell? ⟨b, off + k, none⟩ = some (.string (bs Ps[k])) := (HB.out.cell (p := ⟨b, off + k, none⟩) hb1).trans (hc1 k hlt)
   have hpk := HPBD.out Ps[k] (List.getElem_mem hlt)
   have HPA := κ (fun wx => parseAR_c (bs Ps[k]) (by rw [size_bs]; omega) wx)
   rw [us_bs] at HPA
   unfold AdrPost at HPA
   have hst : adrsGo [] Ps = if (parseA Ps[k]).2 ≠ 0 then ([], (parseA Ps[k]).2) else adrsGo (R.map Prod.fst ++ [(parseA Ps[k]).1]) (Ps.drop (k + 1)) := by
    rw [HP.out, List.drop_eq_getElem_cons hlt, adrsGo]
   obtain ⟨y, hy⟩ : ∃ y, y = parseA Ps[k] := ⟨_, rfl⟩
   rw [← hy] at HPA hst
   obtain ⟨S2, hS2⟩ : ∃ S2, S2 = bs Ps[k] := ⟨_, rfl⟩
   rw [← hS2] at x0 HPA
   clear hy hS2 hpk HP hc1
   obtain ⟨⟨d, ⟨sc, ur, ho, n, F, G⟩, L⟩, c⟩ := y
   obtain ⟨D, rfl⟩ : ∃ D, d = us D := ⟨bs d, (us_bs d).symm⟩
   obtain ⟨S, rfl⟩ : ∃ D, sc = us D := ⟨bs sc, (us_bs sc).symm⟩
   obtain ⟨U, rfl⟩ : ∃ D, ur = us D := ⟨bs ur, (us_bs ur).symm⟩
   obtain ⟨H, rfl⟩ : ∃ D, ho = us D := ⟨bs ho, (us_bs ho).symm⟩
   dsimp only at HPA hst
   unfold sv at HPA
   rw [bs_us, bs_us, bs_us, bs_us] at HPA
   have k0 : (0 : Int) ≤ (k : Int) := by omega
   have k1 : (k : Int) < (Ps.length : Int) := by omega
   by_cases hc : c = 0
   ·subst hc
    rw [if_neg (fun h => h rfl)] at hst
    have HST := κ hst
    clear hst
    go_wp2_with (first | (go_at_call 37; refine (HPA.out _).mono ?_; rintro e w3 ⟨u1, u2, u3, rfl, g1, g2, g3, j1, j2, j3, hC3⟩; obtain ⟨o1, c1, rfl, _, _⟩ := g1.form; obtain ⟨o2, c2, rfl, _, _⟩ := g2.form; obtain ⟨o3, c3, rfl, _, _⟩ := g3.form; have f1 := hown.free (q := F) j1 (ρ _); have f2 := hown.free (q := G) j2 (ρ _); have f3 := hown.free (q := L) j3 (ρ _); have hC := hC3.alloc hC3.size (.cells #[.string D, .string S, .string U, .string H, .int .i64 n, .slice o1 F.length c1, .slice o2 G.length c2, .slice o3 L.length c3] 31); have hB := HB.out.trans (hC.mono HB.out.size); replace hown := hown.below hC (ρ _); have hN := (Below.refl w3.heap.size w3).alloc (ρ _) (.cells #[.string D, .string S, .string U, .string H, .int .i64 n, .slice o1 F.length c1, .slice o2 G.length c2, .slice o3 L.length c3] 31); replace g1 := g1.below hN (ρ _); replace g2 := g2.below hN (ρ _); replace g3 := g3.below hN (ρ _); obtain ⟨n0, n1, n2, n3, n4, n5, n6, n7, _, _, _, _, _, _, _, _, _⟩ := blk_h8 (Blk.new w3 31 #[.string D, .string S, .string U, .string H, .int .i64 n, .slice o1 F.length c1, .slice o2 G.length c2, .slice o3 L.length c3])) | (at_builtin; refine wpList_appA rfl rfl Tryz.underlying34 infoA (by rw [World.size_alloc]; rfl) rfl hown g1 g2 g3 f1 f2 f3 hB (ρ _) ?_ ?_; (focus omega); intro v1 w4 ho1 hb1))
    go_roundw
    case rel => exact ⟨k + 1, _, by omega, by go_num, ho1, κ hb1, by rw [List.length_append, hR]; rfl, κ (HU.out.add _ (j1.mono HB.out.size) (j2.mono HB.out.size) (j3.mono HB.out.size)), κ (by rw [HST.out]; simp only [List.map_append, List.map_cons, List.map_nil])⟩
    case measure => simp [intOf]; omega
   ·rw [if_pos hc] at hst
    have t0 : (c != 0) = true := by simpa using hc
    have HF := κ (HE.out.trans hst)
    clear hst hc
    go_wp2_with ((go_at_call 37; refine (HPA.out _).mono ?_; rintro e w3 ⟨u1, u2, u3, rfl, g1, g2, g3, j1, j2, j3, hC3⟩; obtain ⟨o1, c1, rfl, _, _⟩ := g1.form; obtain ⟨o2, c2, rfl, _, _⟩ := g2.form; obtain ⟨o3, c3, rfl, _, _⟩ := g3.form; have hC := hC3.alloc hC3.size (.cells #[.string D, .string S, .string U, .string H, .int .i64 n, .slice o1 F.length c1, .slice o2 G.length c2, .slice o3 L.length c3] 31); have hB := HB.out.trans (hC.mono HB.out.size)))
    go_ret2
    exact ⟨_, by rw [HF.out]; rfl, by rw [HF.out]; exact RAdrsF.nil _ _, HB1.out.trans (hB.mono HB1.out.size)⟩
  ·have HF := κ (show Q = (R.map Prod.fst, 0) by rw [HE.out, HP.out, List.drop_eq_nil_iff.2 (by omega)]; rfl)
   clear HP
   go_wp2
   go_ret2
   exact ⟨_, by rw [HF.out]; rfl, by rw [HF.out]; exact hown.readF HU.out HB1.out.size, HB1.out.trans (HB.out.mono HB1.out.size)⟩
end Go.Proofs.YtgkilllbkljibaaGreatDoor
