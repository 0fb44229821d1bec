/-
  The law AddrMany: the walk.
-/
import Derived.Test.YtjpmfcipjaeemaaDoorAbd
import Derived.Test.YtjpmfcipjaeemaaDoorLad
import Derived.Test.YtjpmfcipjaeemaaDoorAla
import Derived.Test.YtjpmfcipjaeemaaDoorOpas
namespace Go.Proofs.YtjpmfcipjaeemaaDoor
set_option linter.unusedSimpArgs false
set_option linter.unusedVariables false
open Go.RowKit

theorem glue_leA (sep : List UInt8) (B : Nat) : ∀ L : List (List UInt8), (∀ x ∈ L, x.length ≤ B) → (glue sep L).length ≤ (B + sep.length) * L.length
  | [], _ => Nat.zero_le _
  | [x], h => by
    have := h x (List.mem_singleton.2 rfl)
    rw [glue]; simp; omega
  | x :: y :: l, h => by
    have h1 := h x (List.mem_cons_self ..)
    have h2 := glue_leA sep B (y :: l) (fun z hz => h z (List.mem_cons_of_mem _ hz))
    have h3 : (x :: y :: l).length = (y :: l).length + 1 := rfl
    rw [glue_cons sep x (y :: l) (by simp), List.length_append, List.length_append, h3, Nat.mul_succ]
    omega

set_option maxRecDepth 100000 in
set_option maxHeartbeats 12800000 in
theorem addrMany_walk (v : Value) (L : List Adr) (w : World) (hm : Ml w) (hL : RAdrs w v L) (bA : ∀ a ∈ L, AdrBd 1048576 a) :
    Calls Tryd.prog 6 #[v] w fun e w' => e = .returned (.bool true) ∧ Below w.heap.size w w' := by
  have HM := Lib.hid hm
  have HA := Lib.hid (fun wx hx => awake_c wx hx)
  have HLL := Lib.hid hL
  have HBA := Lib.hid bA
  obtain ⟨ao, cap, rfl, hm1, c1⟩ := hL.form
  have C1 := Lib.hid c1
  clear c1 hL hm bA
  unfold maxLen at hm1
  have hB0 : Below w.heap.size w w := Below.refl _ _
  by_cases l0 : L.length < 1
  · go_enter Tryd.func6, Tryd.ntmps6
    go_wp2_with (go_at_call 7; refine (HA.out _ HM.out).mono ?_; rintro e wz ⟨rfl, hCz⟩)
    go_ret
    exact ⟨rfl, hCz⟩
  by_cases l16 : 16 < L.length
  · go_enter Tryd.func6, Tryd.ntmps6
    go_wp2_with (go_at_call 7; refine (HA.out _ HM.out).mono ?_; rintro e wz ⟨rfl, hCz⟩)
    go_ret
    exact ⟨rfl, hCz⟩
  go_enter Tryd.func6, Tryd.ntmps6
  go_wp2_with (go_at_call 7; exfalso; omega)
  go_loopw [3, 4] (fun v i wr => ∃ k : Nat, k ≤ L.length ∧ i = .int .i64 k ∧ Strs wr w.heap.size 9 v ((L.take k).map textA) ∧ Hid (Below w.heap.size w wr) ∧ Hid (∀ a ∈ L.take k, checkA a = 0)) (fun _ i _ => L.length - (intOf i).toNat)
  case atStart => exact ⟨0, Nat.zero_le _, rfl, Strs.nil _ _ _, Lib.hid hB0, Lib.hid (fun a h => by simp at h)⟩
  case round =>
    obtain ⟨k, hk, rfl, hown, HB, HK⟩ := hrel
    by_cases hlt : k < L.length
    · obtain ⟨b, off, rfl, hb1, hc1⟩ := C1.out (by omega)
      obtain ⟨x0, x1, x2, x3, x4, u1, u2, u3, x5, x6, x7, g1, g2, g3⟩ := hc1 k hlt
      obtain ⟨⟨e1, e2, e3, e4⟩, e5, e6, e7, e8⟩ := HBA.out L[k] (List.getElem_mem hlt)
      have htk : L.take (k + 1) = L.take k ++ [L[k]] := by rw [List.take_succ_eq_append_getElem hlt]
      have HCK := Lib.hid (fun (h : checkA L[k] = 0) => show ∀ a ∈ L.take (k + 1), checkA a = 0 from fun a ha => by
        rw [htk] at ha
        rcases List.mem_append.1 ha with ha | ha
        · exact HK.out a ha
        · rw [List.mem_singleton.1 ha]; exact h)
      have HTX := Lib.hid (show (L.take (k + 1)).map textA = (L.take k).map textA ++ [textA L[k]] by rw [htk, List.map_append]; rfl)
      rw [← HB.out.cell (p := ⟨b, off + k * 8, none⟩) hb1] at x0
      rw [← HB.out.cell (p := ⟨b, off + k * 8 + 1, none⟩) hb1] at x1
      rw [← HB.out.cell (p := ⟨b, off + k * 8 + 2, none⟩) hb1] at x2
      rw [← HB.out.cell (p := ⟨b, off + k * 8 + 3, none⟩) hb1] at x3
      rw [← HB.out.cell (p := ⟨b, off + k * 8 + 4, none⟩) hb1] at x4
      rw [← HB.out.cell (p := ⟨b, off + k * 8 + 5, none⟩) hb1] at x5
      rw [← HB.out.cell (p := ⟨b, off + k * 8 + 6, none⟩) hb1] at x6
      rw [← HB.out.cell (p := ⟨b, off + k * 8 + 7, none⟩) hb1] at x7
      replace g1 := g1.below HB.out (Nat.le_refl _)
      replace g2 := g2.below HB.out (Nat.le_refl _)
      replace g3 := g3.below HB.out (Nat.le_refl _)
      have G1 := Lib.hid g1
      have G2 := Lib.hid g2
      have G3 := Lib.hid g3
      obtain ⟨o1, d1, rfl, m1, _⟩ := g1.form
      obtain ⟨o2, d2, rfl, m2, _⟩ := g2.form
      obtain ⟨o3, d3, rfl, m3, _⟩ := g3.form
      unfold maxLen at m1 m2 m3
      clear hc1 htk g1 g2 g3 hb1
      have hlen : ((L.take k).map textA).length = k := by rw [List.length_map, List.length_take]; omega
      obtain ⟨A, hA⟩ : ∃ A, A = L[k] := ⟨_, rfl⟩
      rw [← hA] at x0 x1 x2 x3 x4 x5 x6 x7 e1 e2 e3 e4 e5 e6 e7 e8 HCK HTX G1 G2 G3 m1 m2 m3
      clear hA
      obtain ⟨d, ⟨sc, ur, ho, n, F, G⟩, P⟩ := A
      dsimp only at x0 x1 x2 x3 x4 x5 x6 x7 e1 e2 e3 e4 e5 e6 e7 e8 G1 G2 G3 m1 m2 m3
      obtain ⟨D, rfl⟩ : ∃ D, d = us D := ⟨bs d, (us_bs d).symm⟩
      obtain ⟨S, rfl⟩ : ∃ D, sc = us D := ⟨bs sc, (us_bs sc).symm⟩
      obtain ⟨U, rfl⟩ : ∃ D, ur = us D := ⟨bs ur, (us_bs ur).symm⟩
      obtain ⟨H, rfl⟩ : ∃ D, ho = us D := ⟨bs ho, (us_bs ho).symm⟩
      rw [length_us] at e1 e2 e3 e4
      unfold sv at x0 x1 x2 x3
      rw [bs_us] at x0 x1 x2 x3
      have HPr := Lib.hid (fun wx u1 u2 u3 hx h1 h2 h3 => printA_c D S U H n u1 u2 u3 F G P (by omega) (by omega) (by omega) e5.1 e5.2 wx hx h1 h2 h3 (fun p hp => by have := e6 p hp; omega) (fun p hp => by have := e7 p hp; omega) (fun p hp => by have := e8 p hp; omega))
      clear e1 e2 e3 e4 e5 e6 e7 e8
      have k0 : (0 : Int) ≤ (k : Int) := by omega
      have k1 : (k : Int) < (L.length : Int) := by omega
      by_cases l1 : 100 < P.length
      · go_wp2_with (go_at_call 7; refine (HA.out _ (HM.out.below HB.out)).mono ?_; rintro e wz ⟨rfl, hCz⟩)
        go_ret
        exact ⟨rfl, HB.out.trans (hCz.mono HB.out.size)⟩
      by_cases l2 : 100 < F.length
      · go_wp2_with (go_at_call 7; refine (HA.out _ (HM.out.below HB.out)).mono ?_; rintro e wz ⟨rfl, hCz⟩)
        go_ret
        exact ⟨rfl, HB.out.trans (hCz.mono HB.out.size)⟩
      by_cases l3 : 100 < G.length
      · go_wp2_with (go_at_call 7; refine (HA.out _ (HM.out.below HB.out)).mono ?_; rintro e wz ⟨rfl, hCz⟩)
        go_ret
        exact ⟨rfl, HB.out.trans (hCz.mono HB.out.size)⟩
      by_cases hck : checkA ⟨us D, ⟨us S, us U, us H, n, F, G⟩, P⟩ = 0
      case neg =>
        have hpr : printA ⟨us D, ⟨us S, us U, us H, n, F, G⟩, P⟩ = ([], checkA ⟨us D, ⟨us S, us U, us H, n, F, G⟩, P⟩) := by unfold printA; rw [if_neg hck]
        rw [hpr] at HPr
        dsimp only at HPr
        obtain ⟨c, hc⟩ : ∃ c, c = checkA ⟨us D, ⟨us S, us U, us H, n, F, G⟩, P⟩ := ⟨_, rfl⟩
        rw [← hc] at HPr hck
        have t0 : (c != 0) = true := by simpa using hck
        clear hc hpr hck
        go_wp2_with (first | (go_at_call 13; refine (HPr.out _ _ _ _ (HM.out.below HB.out) G1.out G2.out G3.out).mono ?_; rintro e w2 ⟨rfl, hC⟩; have HB2 := HB.out.trans (hC.mono HB.out.size)) | (go_at_call 7; refine (HA.out _ (HM.out.below HB2)).mono ?_; rintro e wz ⟨rfl, hCz⟩))
        go_ret
        exact ⟨rfl, HB2.trans (hCz.mono HB2.size)⟩
      have hpr := printA_yes _ hck
      rw [hpr] at HPr
      dsimp only at HPr
      have HKK := Lib.hid (HCK.out hck)
      obtain ⟨T, hT⟩ : ∃ T, T = textA ⟨us D, ⟨us S, us U, us H, n, F, G⟩, P⟩ := ⟨_, rfl⟩
      rw [← hT] at HPr HTX
      clear hck hpr hT HCK
      go_wp2_with (first | (go_at_call 13; refine (HPr.out _ _ _ _ (HM.out.below HB.out) G1.out G2.out G3.out).mono ?_; rintro e w2 ⟨rfl, hC⟩; have HB2 := HB.out.trans (hC.mono HB.out.size); have hown2 := hown.below hC (Nat.le_refl _)) | (at_builtin; refine wpList_appS1 T (us_bs _) rfl rfl Tryd.underlying22 infoS rfl rfl hown2 HB2 (Nat.le_refl _) ?_ ?_; (focus (rw [hlen]; omega)); intro v2 w4 ho2 hb2))
      go_roundw
      case rel => exact ⟨k + 1, by omega, by go_num, ho2.cast HTX.out.symm, Lib.hid hb2, HKK⟩
      case measure => simp [intOf]; omega
    · have hke : L.take k = L := List.take_of_length_le (by omega)
      have hall : ∀ a ∈ L, checkA a = 0 := by have := HK.out; rwa [hke] at this
      rw [hke] at hown
      clear hke HK
      have hln : (glue [44, 32] (L.map textA)).length ≤ (18000 + 2) * 16 := by
        have h1 := glue_leA [44, 32] 18000 (L.map textA) (fun x hx => by
          obtain ⟨a, ha, rfl⟩ := List.mem_map.1 hx
          exact textA_le a (hall a ha))
        rw [List.length_map] at h1
        have h2 : (18000 + ([44, 32] : List UInt8).length) * L.length ≤ (18000 + 2) * 16 := Nat.mul_le_mul_left _ (by omega)
        omega
      have hlt2 := listA_texts L (by omega) (by omega) hall
      have hgl := Lib.hid (fun wx vv hv => glue_c vv (L.map textA) ⟨#[44, 32]⟩ wx hv (by rw [show us ⟨#[44, 32]⟩ = [44, 32] from rfl]; omega))
      rw [show us ⟨#[44, 32]⟩ = [44, 32] from rfl] at hgl
      obtain ⟨TX, hTX⟩ : ∃ TX, TX = bs (glue [44, 32] (L.map textA)) := ⟨_, rfl⟩
      have uT : us TX = glue [44, 32] (L.map textA) := by rw [hTX, us_bs]
      have hsz : TX.size ≤ 4294967280 := by rw [hTX, size_bs]; omega
      rw [← hTX] at hgl
      have HLA := Lib.hid (fun wx hx => listA_c TX hsz wx hx)
      rw [uT, hlt2] at HLA
      dsimp only at HLA
      have HRD := Lib.hid hown.read
      clear hall hln hlt2 hTX uT hsz hown
      go_wp2_with (first | (go_at_call 17; refine (hgl.out _ _ HRD.out).mono ?_; rintro e w2 ⟨rfl, hC⟩; have HB2 := HB.out.trans (hC.mono HB.out.size)) | (go_at_call 16; refine (HLA.out _ (HM.out.below HB2)).mono ?_; rintro e w3 ⟨vv, rfl, hvv, hC3⟩; have HB3 := HB2.trans (hC3.mono HB2.size); obtain ⟨oo, cc, rfl, _, _⟩ := hvv.form; have HVV := Lib.hid hvv) | (go_at_call 18; refine (allA_c _ _ L _ (HLL.out.below HB3 (Nat.le_refl _)) HVV.out).mono ?_; rintro e w4 ⟨rfl, hC4⟩; have HB4 := HB3.trans (hC4.mono HB3.size)) | (go_at_call 7; refine (HA.out _ (HM.out.below HB4)).mono ?_; rintro e wz ⟨rfl, hCz⟩))
      go_ret
      exact ⟨rfl, HB4.trans (hCz.mono HB4.size)⟩

end Go.Proofs.YtjpmfcipjaeemaaDoor
