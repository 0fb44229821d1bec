/-
  via.List, rosterref07.List, rosterref07.All.
-/
import Derived.Test.YtjohecbmeoalaaaDoorAwake7
import Derived.Test.YtjohecbmeoalaaaDoorAll7
import Derived.Test.YtjohecbmeoalaaaDoorHpk
namespace Go.Proofs.YtjohecbmeoalaaaDoor
open Go.RowKit Go.Sort

def pp (v : List UInt8) : List (List UInt8) := parts v 44
theorem listV_bad (vals : List (List UInt8)) (c : Int) (h : hopsGo [] (vals.flatMap pp) = ([], c)) (hc : c ≠ 0) : listV vals = ([], c) := by
  unfold listV
  have e : (vals.flatMap fun v => parts v 44) = vals.flatMap pp := rfl
  rw [e, h, if_pos hc]
theorem listV_nil (vals : List (List UInt8)) (h : hopsGo [] (vals.flatMap pp) = ([], 0)) : listV vals = ([], 100) := by
  unfold listV
  have e : (vals.flatMap fun v => parts v 44) = vals.flatMap pp := rfl
  rw [e, h, if_neg (fun h => h rfl), if_pos rfl]
theorem listV_ok (vals : List (List UInt8)) (L : List Hop) (h : hopsGo [] (vals.flatMap pp) = (L, 0)) (hL : L ≠ []) : listV vals = (L, 0) := by
  unfold listV
  have e : (vals.flatMap fun v => parts v 44) = vals.flatMap pp := rfl
  rw [e, h, if_neg (fun h => h rfl), if_neg hL]
theorem allS_mem (H : List Hdr) (n x : List UInt8) (h : x ∈ allS H n) : ∃ q ∈ H, q.value = x := by
  unfold allS at h
  obtain ⟨q, hq, rfl⟩ := List.mem_map.1 h
  exact ⟨q, (List.mem_filter.1 hq).1, rfl⟩
theorem allS_len (H : List Hdr) (n : List UInt8) : (allS H n).length ≤ H.length := by
  unfold allS
  rw [List.length_map]
  exact List.length_filter_le _ _
theorem RPrms.to {w : World} {v : Value} {F G : List Prm} (h : RPrms w v F) (e : F = G) : RPrms w v G := e ▸ h
theorem Hops.free {w wx : World} {base : Nat} {v u : Value} {R : List (Hop × Value)} {q : Hop} (h : Hops w base v R) (hF : Fresh wx.heap.size u) (hs : w.heap.size ≤ wx.heap.size) : q.ps ≠ [] → ∀ a n c, u = .slice (some a) n c → v.ownBlock ≠ some a.block := by
  intro _ a n c e e2
  have h1 := h.lt _ e2
  have h2 := hF a n c e
  omega

theorem parts_cnt (c : UInt8) (l : List UInt8) : (parts l c).length ≤ l.length + 1 := by
  have key : ∀ L : List (List UInt8), L.length ≤ (glue [c] L).length + 1 := by
    intro L
    induction L with
    | nil => exact Nat.zero_le _
    | cons x r ih =>
      cases r with
      | nil => simp
      | cons y s =>
        rw [glue, List.length_append, List.length_append, List.length_singleton]
        rw [List.length_cons]; omega
  have := key (parts l c)
  rwa [glue_parts] at this

set_option maxRecDepth 100000 in
set_option maxHeartbeats 12800000 in
theorem list_c (M TG RS B : ByteArray) (X : Int) (u : Value) (H : List Hdr) (w : World) (hm : Ml w) (hu : RHdrs w u H) (hb : ∀ h ∈ H, h.name.length ≤ 1048576 ∧ h.value.length ≤ 1048576) (hH : H.length ≤ 1048576) :
    Calls Tryd.prog 13 #[.agg #[.string M, .string TG, .int .i64 X, .string RS, u, .string B]] w fun e w' => ∃ v, e = .returned (.tuple #[v, .int .i64 (listV (allS H nVia)).2]) ∧ RHops w' v (listV (allS H nVia)).1 ∧ Below w.heap.size w w' := by
  have HM := Lib.hid hm
  clear hm
  have HU := Lib.hid hu
  obtain ⟨mo, mc, rfl, _, _⟩ := hu.form
  clear hu
  have HAL := Lib.hid (fun wx hx => all_c' M TG RS B X (.slice mo H.length mc) H ⟨#[86, 105, 97]⟩ (by decide) wx hx (fun h hh => by have := hb h hh; omega) (by omega))
  rw [show us ⟨#[86, 105, 97]⟩ = nVia from rfl] at HAL
  have hVb : ∀ x ∈ allS H nVia, x.length ≤ 1048576 := fun x hx => by
    obtain ⟨q, hq, rfl⟩ := allS_mem H nVia x hx
    exact (hb q hq).2
  have hVl := allS_len H nVia
  obtain ⟨VS, hVS⟩ : ∃ VS, VS = allS H nVia := ⟨_, rfl⟩
  rw [← hVS] at HAL hVb hVl ⊢
  have hVl2 : VS.length ≤ 1048576 := by omega
  have HVB := Lib.hid hVb
  clear hVS hVb hVl hb
  have HPB := Lib.hid (listV_bad VS)
  have HPN := Lib.hid (listV_nil VS)
  have HPO := Lib.hid (listV_ok VS)
  obtain ⟨A, hA⟩ : ∃ A, A = VS.flatMap pp := ⟨_, rfl⟩
  rw [← hA] at HPB HPN HPO
  have HAd := Lib.hid hA
  obtain ⟨Q, hQ⟩ : ∃ Q, Q = listV VS := ⟨_, rfl⟩
  rw [← hQ] at HPB HPN HPO ⊢
  clear hA hQ
  have hB0 : Below w.heap.size w (w.alloc (.cells #[.string M, .string TG, .int .i64 X, .string RS, .slice mo H.length mc, .string B] 35)) := (Below.refl _ _).alloc (Nat.le_refl _) _
  obtain ⟨p0, p1, p2, p3, p4, p5⟩ := (Blk.new w 35 #[.string M, .string TG, .int .i64 X, .string RS, .slice mo H.length mc, .string B]).f6
  obtain ⟨w0, hw0⟩ : ∃ w0, w0 = w.alloc (.cells #[.string M, .string TG, .int .i64 X, .string RS, .slice mo H.length mc, .string B] 35) := ⟨_, rfl⟩
  rw [← hw0] at hB0 p0 p1 p2 p3 p4 p5
  have HW0 := Lib.hid hw0
  have HB0 := Lib.hid hB0
  clear hw0 hB0
  go_enter Tryd.func13, Tryd.ntmps13
  go_wp2_with (go_at_call 38; (try rw [← HW0.out]); refine (HAL.out _ (HU.out.below HB0.out (Nat.le_refl _))).mono ?_; rintro e w1 ⟨va, rfl, hva, hC1⟩; have HB1 := Lib.hid (HB0.out.trans (hC1.mono HB0.out.size)); have HVA := Lib.hid hva; obtain ⟨ao, cap, rfl, hm1, c1⟩ := hva.form; have C1 := Lib.hid c1; clear hva c1 hC1)
  unfold maxLen at hm1
  go_loopw [4, 14] (fun v i wr => ∃ (j : Nat) (R : List (Hop × Value)), j ≤ VS.length ∧ i = .int .i64 j ∧ Hops wr w1.heap.size v R ∧ Hid (Below w1.heap.size w1 wr) ∧ R.length ≤ 16 ∧ Hid (hopsGo [] A = hopsGo (R.map Prod.fst) ((VS.drop j).flatMap pp))) (fun _ i _ => VS.length - (intOf i).toNat)
  case atStart => exact ⟨0, [], Nat.zero_le _, rfl, Hops.nil _ _, Lib.hid (Below.refl _ _), Nat.zero_le _, Lib.hid (by rw [HAd.out]; rfl)⟩
  case round =>
    obtain ⟨j, R, hj, rfl, hown, HB, hR, HP⟩ := hrel
    by_cases hlt : j < VS.length
    · obtain ⟨b, off, rfl, hb1, hc1⟩ := C1.out (by omega)
      have x0 : wr.cell? ⟨b, off + j, none⟩ = some (.string (bs VS[j])) := (HB.out.cell (p := ⟨b, off + j, none⟩) hb1).trans (hc1 j hlt)
      have hvj := HVB.out VS[j] (List.getElem_mem hlt)
      have HPC := Lib.hid (fun wx => partsF_c (bs VS[j]) (by rw [size_bs]; omega) 44 wx)
      rw [us_bs] at HPC
      have hPb : ∀ y ∈ parts VS[j] 44, y.length ≤ 1048576 := fun y hy => Nat.le_trans (parts_bd 44 VS[j] y hy) hvj
      have hPn := parts_ne 44 VS[j]
      have hPl : (parts VS[j] 44).length ≤ 1048577 := by
        have h1 := parts_cnt 44 VS[j]
        omega
      have HP2 := Lib.hid (show hopsGo [] A = hopsGo (R.map Prod.fst) (parts VS[j] 44 ++ (VS.drop (j + 1)).flatMap pp) by rw [HP.out, List.drop_eq_getElem_cons hlt, List.flatMap_cons]; rfl)
      obtain ⟨P, hPd⟩ : ∃ P, P = parts VS[j] 44 := ⟨_, rfl⟩
      rw [← hPd] at HPC hPb hPn hPl HP2
      have HPBD := Lib.hid hPb
      have hP0 : 0 < P.length := by rcases Nat.eq_zero_or_pos P.length with h | h; exact absurd (List.eq_nil_of_length_eq_zero h) hPn; exact h
      obtain ⟨S, hS⟩ : ∃ S, S = bs VS[j] := ⟨_, rfl⟩
      rw [← hS] at x0 HPC
      have k0 : (0 : Int) ≤ (j : Int) := by omega
      clear hPd hPb hPn hS hvj hc1 hb1 HP
      go_wp2_with (go_at_call 28; refine (HPC.out _).mono ?_; rintro e w2 ⟨vp, rfl, hvp, hC2⟩; have hown := hown.below hC2 (Nat.le_refl _); have HB2 := Lib.hid (HB.out.trans (hC2.mono HB.out.size)); obtain ⟨ao2, cap2, rfl, hm2, c2⟩ := hvp.read.form; obtain ⟨b2, off2, rfl, hb2, _⟩ := c2 hP0; clear c2)
      unfold maxLen at hm2
      obtain ⟨base2, hbase2⟩ : ∃ x, x = wr.heap.size := ⟨_, rfl⟩
      rw [← hbase2] at hvp
      have HV0 := Lib.hid hvp
      have HOW := Lib.hid hown
      clear hbase2 hvp hown x0 hb2
      go_loopw [4, 21] (fun v i wr => ∃ (k : Nat) (R : List (Hop × Value)), k ≤ P.length ∧ i = .int .i64 k ∧ Hops wr w1.heap.size v R ∧ Hid (Below w1.heap.size w1 wr) ∧ R.length ≤ 16 ∧ Strs wr base2 9 (.slice (some ⟨b2, off2, none⟩) P.length cap2) P ∧ Hid (hopsGo [] A = hopsGo (R.map Prod.fst) (P.drop k ++ (VS.drop (j + 1)).flatMap pp))) (fun _ i _ => P.length - (intOf i).toNat)
      case atStart => exact ⟨0, R, Nat.zero_le _, rfl, HOW.out, HB2, hR, HV0.out, HP2⟩
      case round =>
        obtain ⟨k, R, hk, rfl, hown, HB, hR, hvp, HP⟩ := hrel
        by_cases hlt2 : k < P.length
        · have x1 := hvp.at_ hlt2
          have hpk := HPBD.out P[k] (List.getElem_mem hlt2)
          have HPA := Lib.hid (fun wx hx => parseV_c (bs P[k]) (by rw [size_bs]; omega) wx hx)
          rw [us_bs] at HPA
          unfold HopPost at HPA
          have hst : hopsGo [] A = if (parseV P[k]).2 ≠ 0 then ([], (parseV P[k]).2) else if 16 ≤ R.length then ([], 4) else hopsGo ((R ++ [((parseV P[k]).1, Value.bool true)]).map Prod.fst) (P.drop (k + 1) ++ (VS.drop (j + 1)).flatMap pp) := by
            rw [HP.out, List.drop_eq_getElem_cons hlt2, List.cons_append, hopsGo, List.length_map, List.map_append]; rfl
          have hln := hops_len hown
          obtain ⟨y, hy⟩ : ∃ y, y = parseV P[k] := ⟨_, rfl⟩
          rw [← hy] at HPA hst
          obtain ⟨S2, hS2⟩ : ∃ S2, S2 = bs P[k] := ⟨_, rfl⟩
          rw [← hS2] at x1 HPA
          clear hy hS2 hpk HP
          obtain ⟨q, c⟩ := y
          dsimp only at HPA hst
          unfold sv at HPA
          obtain ⟨N, hN⟩ : ∃ N, N = bs q.host := ⟨_, rfl⟩
          have HN := Lib.hid (show us N = q.host by rw [hN, us_bs])
          rw [← hN] at HPA
          have k1 : (0 : Int) ≤ (k : Int) := by omega
          obtain ⟨n, hn⟩ : ∃ n, n = q.port := ⟨_, rfl⟩
          rw [← hn] at HPA
          have HNp := Lib.hid hn
          obtain ⟨F, hF⟩ : ∃ F, F = q.ps := ⟨_, rfl⟩
          rw [← hF] at HPA
          have HFp := Lib.hid hF
          clear hN hn hF
          by_cases hc : c = 0
          · subst hc
            rw [if_neg (fun h => h rfl)] at hst
            by_cases h16 : 16 ≤ R.length
            · rw [if_pos h16] at hst
              have e16 : R.length = 16 := by omega
              have t16 : ((R.length : Int) == 16) = true := by rw [e16]; rfl
              have t17 : (16 : Int) ≤ (R.length : Int) := by omega
              have HE := Lib.hid (HPB.out 4 hst (by decide))
              clear hst h16 e16
              go_wp2_with ((go_at_call 10; refine (HPA.out _ (HM.out.below (HB1.out.trans (HB.out.mono HB1.out.size)))).mono ?_; rintro e w3 ⟨u3, rfl, hu3, hF3, hC3⟩; obtain ⟨ao3, cap3, rfl, _, _⟩ := hu3.form; have hfree : q.ps ≠ [] → ∀ a n c, (.slice ao3 F.length cap3 : Value) = .slice (some a) n c → _ := hown.free (q := q) hF3 (Nat.le_refl _); have hC := hC3.alloc hC3.size (.cells #[.string N, .int .i64 n, .slice ao3 F.length cap3] 25); have hB := HB.out.trans (hC.mono HB.out.size); have hown := hown.below hC (Nat.le_refl _); have hvp := hvp.below hC (Nat.le_refl _); have hu3 := hu3.below ((Below.refl _ _).alloc (Nat.le_refl _) (.cells #[.string N, .int .i64 n, .slice ao3 F.length cap3] 25)) (Nat.le_refl _); obtain ⟨n0, n1, n2, _, _, _, _⟩ := (Blk.new w3 25 #[.string N, .int .i64 n, .slice ao3 F.length cap3]).f3))
              go_ret2
              exact ⟨_, by rw [HE.out]; rfl, by rw [HE.out]; exact RHops.nil _, HB1.out.trans (hB.mono HB1.out.size)⟩
            · rw [if_neg h16] at hst
              have t16 : ((R.length : Int) == 16) = false := by rw [beq_eq_false_iff_ne]; omega
              have t17 : ¬ ((16 : Int) ≤ (R.length : Int)) := by omega
              have HST := Lib.hid hst
              clear hst
              go_wp2_with (first | (go_at_call 10; refine (HPA.out _ (HM.out.below (HB1.out.trans (HB.out.mono HB1.out.size)))).mono ?_; rintro e w3 ⟨u3, rfl, hu3, hF3, hC3⟩; obtain ⟨ao3, cap3, rfl, _, _⟩ := hu3.form; have hfree : q.ps ≠ [] → ∀ a n c, (.slice ao3 F.length cap3 : Value) = .slice (some a) n c → _ := hown.free (q := q) hF3 (Nat.le_refl _); have hC := hC3.alloc hC3.size (.cells #[.string N, .int .i64 n, .slice ao3 F.length cap3] 25); have hB := HB.out.trans (hC.mono HB.out.size); have hown := hown.below hC (Nat.le_refl _); have hvp := hvp.below hC (Nat.le_refl _); have hu3 := hu3.below ((Below.refl _ _).alloc (Nat.le_refl _) (.cells #[.string N, .int .i64 n, .slice ao3 F.length cap3] 25)) (Nat.le_refl _); obtain ⟨n0, n1, n2, _, _, _, _⟩ := (Blk.new w3 25 #[.string N, .int .i64 n, .slice ao3 F.length cap3]).f3) | (at_builtin; refine wpList_appVK q HN.out HNp.out rfl rfl Tryd.underlying38 infoV (by rw [World.size_alloc]; rfl) rfl hown (hu3.to HFp.out) hfree hB (Nat.le_refl _) ?_ ?_; (focus omega); intro v1 w4 ho1 hb1 hk1))
              go_roundw
              case rel => exact ⟨k + 1, _, by omega, by go_num, ho1, Lib.hid hb1, by rw [List.length_append]; simp; omega, hvp.kept hk1 (by decide), Lib.hid (by rw [HST.out]; simp only [List.map_append, List.map_cons])⟩
              case measure => simp [intOf]; omega
          · rw [if_pos hc] at hst
            have t0 : (c != 0) = true := by simpa using hc
            have HE := Lib.hid (HPB.out c hst hc)
            clear hst hc
            go_wp2_with ((go_at_call 10; refine (HPA.out _ (HM.out.below (HB1.out.trans (HB.out.mono HB1.out.size)))).mono ?_; rintro e w3 ⟨u3, rfl, hu3, hF3, hC3⟩; obtain ⟨ao3, cap3, rfl, _, _⟩ := hu3.form; have hfree : q.ps ≠ [] → ∀ a n c, (.slice ao3 F.length cap3 : Value) = .slice (some a) n c → _ := hown.free (q := q) hF3 (Nat.le_refl _); have hC := hC3.alloc hC3.size (.cells #[.string N, .int .i64 n, .slice ao3 F.length cap3] 25); have hB := HB.out.trans (hC.mono HB.out.size); have hown := hown.below hC (Nat.le_refl _); have hvp := hvp.below hC (Nat.le_refl _); have hu3 := hu3.below ((Below.refl _ _).alloc (Nat.le_refl _) (.cells #[.string N, .int .i64 n, .slice ao3 F.length cap3] 25)) (Nat.le_refl _); obtain ⟨n0, n1, n2, _, _, _, _⟩ := (Blk.new w3 25 #[.string N, .int .i64 n, .slice ao3 F.length cap3]).f3))
            go_ret2
            exact ⟨_, by rw [HE.out]; rfl, by rw [HE.out]; exact RHops.nil _, HB1.out.trans (hB.mono HB1.out.size)⟩
        · have HST := Lib.hid (show hopsGo [] A = hopsGo (R.map Prod.fst) ((VS.drop (j + 1)).flatMap pp) by rw [HP.out, List.drop_eq_nil_iff.2 (by omega)]; rfl)
          clear HP
          go_wp2
          go_roundw
          case rel => exact ⟨j + 1, R, by omega, by go_num, hown, HB, hR, HST⟩
          case measure => simp [intOf]; omega
    · have hst : hopsGo [] A = (R.map Prod.fst, 0) := by rw [HP.out, List.drop_eq_nil_iff.2 (by omega)]; rfl
      have hln := hops_len hown
      have HBF := Lib.hid (HB1.out.trans (HB.out.mono HB1.out.size))
      by_cases hz : R.length = 0
      · have t1 : ((R.length : Int) == 0) = true := by rw [hz]; rfl
        have HE := Lib.hid (HPN.out (by rw [hst, List.eq_nil_of_length_eq_zero hz]; rfl))
        clear hst hz HP
        go_wp2
        go_ret2
        exact ⟨_, by rw [HE.out]; rfl, by rw [HE.out]; exact RHops.nil _, HBF.out⟩
      · have t1 : ((R.length : Int) == 0) = false := by rw [beq_eq_false_iff_ne]; omega
        have HE := Lib.hid (HPO.out _ hst (by intro e; have := congrArg List.length e; rw [List.length_map, List.length_nil] at this; omega))
        clear hst hz HP
        go_wp2
        go_ret2
        exact ⟨_, by rw [HE.out]; rfl, by rw [HE.out]; exact hown.read, HBF.out⟩

set_option maxRecDepth 100000 in
set_option maxHeartbeats 12800000 in
theorem listR_c (M TG RS B : ByteArray) (X : Int) (u : Value) (H : List Hdr) (w : World) (hu : RHdrs w u H) (hb : ∀ h ∈ H, h.name.length ≤ 1048576 ∧ h.value.length ≤ 1048576) (hH : H.length ≤ 1048576) :
    Calls Tryd.prog 14 #[.agg #[.string M, .string TG, .int .i64 X, .string RS, u, .string B]] w fun e w' => ∃ v, e = .returned (.tuple #[v, .int .i64 (listV (allS H nVia)).2]) ∧ RHops w' v (listV (allS H nVia)).1 ∧ Below w.heap.size w w' := by
  have HU := Lib.hid hu
  obtain ⟨mo, mc, rfl, _, _⟩ := hu.form
  clear hu
  have HAL := Lib.hid (fun wx hx => allR_c' M TG RS B X (.slice mo H.length mc) H ⟨#[86, 105, 97]⟩ (by decide) wx hx (fun h hh => by have := hb h hh; omega) (by omega))
  rw [show us ⟨#[86, 105, 97]⟩ = nVia from rfl] at HAL
  have hVb : ∀ x ∈ allS H nVia, x.length ≤ 1048576 := fun x hx => by
    obtain ⟨q, hq, rfl⟩ := allS_mem H nVia x hx
    exact (hb q hq).2
  have hVl := allS_len H nVia
  obtain ⟨VS, hVS⟩ : ∃ VS, VS = allS H nVia := ⟨_, rfl⟩
  rw [← hVS] at HAL hVb hVl ⊢
  have hVl2 : VS.length ≤ 1048576 := by omega
  have HVB := Lib.hid hVb
  clear hVS hVb hVl hb
  have HPB := Lib.hid (listV_bad VS)
  have HPN := Lib.hid (listV_nil VS)
  have HPO := Lib.hid (listV_ok VS)
  obtain ⟨A, hA⟩ : ∃ A, A = VS.flatMap pp := ⟨_, rfl⟩
  rw [← hA] at HPB HPN HPO
  have HAd := Lib.hid hA
  obtain ⟨Q, hQ⟩ : ∃ Q, Q = listV VS := ⟨_, rfl⟩
  rw [← hQ] at HPB HPN HPO ⊢
  clear hA hQ
  have hB0 : Below w.heap.size w (w.alloc (.cells #[.string M, .string TG, .int .i64 X, .string RS, .slice mo H.length mc, .string B] 35)) := (Below.refl _ _).alloc (Nat.le_refl _) _
  obtain ⟨p0, p1, p2, p3, p4, p5⟩ := (Blk.new w 35 #[.string M, .string TG, .int .i64 X, .string RS, .slice mo H.length mc, .string B]).f6
  obtain ⟨w0, hw0⟩ : ∃ w0, w0 = w.alloc (.cells #[.string M, .string TG, .int .i64 X, .string RS, .slice mo H.length mc, .string B] 35) := ⟨_, rfl⟩
  rw [← hw0] at hB0 p0 p1 p2 p3 p4 p5
  have HW0 := Lib.hid hw0
  have HB0 := Lib.hid hB0
  clear hw0 hB0
  go_enter Tryd.func14, Tryd.ntmps14
  go_wp2_with (go_at_call 39; (try rw [← HW0.out]); refine (HAL.out _ (HU.out.below HB0.out (Nat.le_refl _))).mono ?_; rintro e w1 ⟨va, rfl, hva, hC1⟩; have HB1 := Lib.hid (HB0.out.trans (hC1.mono HB0.out.size)); have HVA := Lib.hid hva; obtain ⟨ao, cap, rfl, hm1, c1⟩ := hva.form; have C1 := Lib.hid c1; clear hva c1 hC1)
  unfold maxLen at hm1
  go_loopw [4, 6] (fun v i wr => ∃ (j : Nat) (R : List (Hop × Value)), j ≤ VS.length ∧ i = .int .i64 j ∧ Hops wr w1.heap.size v R ∧ Hid (Below w1.heap.size w1 wr) ∧ R.length ≤ 16 ∧ Hid (hopsGo [] A = hopsGo (R.map Prod.fst) ((VS.drop j).flatMap pp))) (fun _ i _ => VS.length - (intOf i).toNat)
  case atStart => exact ⟨0, [], Nat.zero_le _, rfl, Hops.nil _ _, Lib.hid (Below.refl _ _), Nat.zero_le _, Lib.hid (by rw [HAd.out]; rfl)⟩
  case round =>
    obtain ⟨j, R, hj, rfl, hown, HB, hR, HP⟩ := hrel
    by_cases hlt : j < VS.length
    · obtain ⟨b, off, rfl, hb1, hc1⟩ := C1.out (by omega)
      have x0 : wr.cell? ⟨b, off + j, none⟩ = some (.string (bs VS[j])) := (HB.out.cell (p := ⟨b, off + j, none⟩) hb1).trans (hc1 j hlt)
      have hvj := HVB.out VS[j] (List.getElem_mem hlt)
      have HPC := Lib.hid (fun wx => partsRF_c (bs VS[j]) (by rw [size_bs]; omega) 44 wx)
      rw [us_bs] at HPC
      have hPb : ∀ y ∈ parts VS[j] 44, y.length ≤ 1048576 := fun y hy => Nat.le_trans (parts_bd 44 VS[j] y hy) hvj
      have hPn := parts_ne 44 VS[j]
      have hPl : (parts VS[j] 44).length ≤ 1048577 := by
        have h1 := parts_cnt 44 VS[j]
        omega
      have HP2 := Lib.hid (show hopsGo [] A = hopsGo (R.map Prod.fst) (parts VS[j] 44 ++ (VS.drop (j + 1)).flatMap pp) by rw [HP.out, List.drop_eq_getElem_cons hlt, List.flatMap_cons]; rfl)
      obtain ⟨P, hPd⟩ : ∃ P, P = parts VS[j] 44 := ⟨_, rfl⟩
      rw [← hPd] at HPC hPb hPn hPl HP2
      have HPBD := Lib.hid hPb
      have hP0 : 0 < P.length := by rcases Nat.eq_zero_or_pos P.length with h | h; exact absurd (List.eq_nil_of_length_eq_zero h) hPn; exact h
      obtain ⟨S, hS⟩ : ∃ S, S = bs VS[j] := ⟨_, rfl⟩
      rw [← hS] at x0 HPC
      have k0 : (0 : Int) ≤ (j : Int) := by omega
      clear hPd hPb hPn hS hvj hc1 hb1 HP
      go_wp2_with (go_at_call 34; refine (HPC.out _).mono ?_; rintro e w2 ⟨vp, rfl, hvp, hC2⟩; have hown := hown.below hC2 (Nat.le_refl _); have HB2 := Lib.hid (HB.out.trans (hC2.mono HB.out.size)); obtain ⟨ao2, cap2, rfl, hm2, c2⟩ := hvp.read.form; obtain ⟨b2, off2, rfl, hb2, _⟩ := c2 hP0; clear c2)
      unfold maxLen at hm2
      obtain ⟨base2, hbase2⟩ : ∃ x, x = wr.heap.size := ⟨_, rfl⟩
      rw [← hbase2] at hvp
      have HV0 := Lib.hid hvp
      have HOW := Lib.hid hown
      clear hbase2 hvp hown x0 hb2
      go_loopw [4, 8] (fun v i wr => ∃ (k : Nat) (R : List (Hop × Value)), k ≤ P.length ∧ i = .int .i64 k ∧ Hops wr w1.heap.size v R ∧ Hid (Below w1.heap.size w1 wr) ∧ R.length ≤ 16 ∧ Strs wr base2 9 (.slice (some ⟨b2, off2, none⟩) P.length cap2) P ∧ Hid (hopsGo [] A = hopsGo (R.map Prod.fst) (P.drop k ++ (VS.drop (j + 1)).flatMap pp))) (fun _ i _ => P.length - (intOf i).toNat)
      case atStart => exact ⟨0, R, Nat.zero_le _, rfl, HOW.out, HB2, hR, HV0.out, HP2⟩
      case round =>
        obtain ⟨k, R, hk, rfl, hown, HB, hR, hvp, HP⟩ := hrel
        by_cases hlt2 : k < P.length
        · have x1 := hvp.at_ hlt2
          have hpk := HPBD.out P[k] (List.getElem_mem hlt2)
          have HPA := Lib.hid (fun wx => parseVR_c (bs P[k]) (by rw [size_bs]; omega) wx)
          rw [us_bs] at HPA
          unfold HopPost at HPA
          have hst : hopsGo [] A = if (parseV P[k]).2 ≠ 0 then ([], (parseV P[k]).2) else if 16 ≤ R.length then ([], 4) else hopsGo ((R ++ [((parseV P[k]).1, Value.bool true)]).map Prod.fst) (P.drop (k + 1) ++ (VS.drop (j + 1)).flatMap pp) := by
            rw [HP.out, List.drop_eq_getElem_cons hlt2, List.cons_append, hopsGo, List.length_map, List.map_append]; rfl
          have hln := hops_len hown
          obtain ⟨y, hy⟩ : ∃ y, y = parseV P[k] := ⟨_, rfl⟩
          rw [← hy] at HPA hst
          obtain ⟨S2, hS2⟩ : ∃ S2, S2 = bs P[k] := ⟨_, rfl⟩
          rw [← hS2] at x1 HPA
          clear hy hS2 hpk HP
          obtain ⟨q, c⟩ := y
          dsimp only at HPA hst
          unfold sv at HPA
          obtain ⟨N, hN⟩ : ∃ N, N = bs q.host := ⟨_, rfl⟩
          have HN := Lib.hid (show us N = q.host by rw [hN, us_bs])
          rw [← hN] at HPA
          have k1 : (0 : Int) ≤ (k : Int) := by omega
          obtain ⟨n, hn⟩ : ∃ n, n = q.port := ⟨_, rfl⟩
          rw [← hn] at HPA
          have HNp := Lib.hid hn
          obtain ⟨F, hF⟩ : ∃ F, F = q.ps := ⟨_, rfl⟩
          rw [← hF] at HPA
          have HFp := Lib.hid hF
          clear hN hn hF
          by_cases hc : c = 0
          · subst hc
            rw [if_neg (fun h => h rfl)] at hst
            by_cases h16 : 16 ≤ R.length
            · rw [if_pos h16] at hst
              have e16 : R.length = 16 := by omega
              have t16 : ((R.length : Int) == 16) = true := by rw [e16]; rfl
              have t17 : (16 : Int) ≤ (R.length : Int) := by omega
              have HE := Lib.hid (HPB.out 4 hst (by decide))
              clear hst h16 e16
              go_wp2_with ((go_at_call 11; refine (HPA.out _).mono ?_; rintro e w3 ⟨u3, rfl, hu3, hF3, hC3⟩; obtain ⟨ao3, cap3, rfl, _, _⟩ := hu3.form; have hfree : q.ps ≠ [] → ∀ a n c, (.slice ao3 F.length cap3 : Value) = .slice (some a) n c → _ := hown.free (q := q) hF3 (Nat.le_refl _); have hC := hC3.alloc hC3.size (.cells #[.string N, .int .i64 n, .slice ao3 F.length cap3] 25); have hB := HB.out.trans (hC.mono HB.out.size); have hown := hown.below hC (Nat.le_refl _); have hvp := hvp.below hC (Nat.le_refl _); have hu3 := hu3.below ((Below.refl _ _).alloc (Nat.le_refl _) (.cells #[.string N, .int .i64 n, .slice ao3 F.length cap3] 25)) (Nat.le_refl _); obtain ⟨n0, n1, n2, _, _, _, _⟩ := (Blk.new w3 25 #[.string N, .int .i64 n, .slice ao3 F.length cap3]).f3))
              go_ret2
              exact ⟨_, by rw [HE.out]; rfl, by rw [HE.out]; exact RHops.nil _, HB1.out.trans (hB.mono HB1.out.size)⟩
            · rw [if_neg h16] at hst
              have t16 : ((R.length : Int) == 16) = false := by rw [beq_eq_false_iff_ne]; omega
              have t17 : ¬ ((16 : Int) ≤ (R.length : Int)) := by omega
              have HST := Lib.hid hst
              clear hst
              go_wp2_with (first | (go_at_call 11; refine (HPA.out _).mono ?_; rintro e w3 ⟨u3, rfl, hu3, hF3, hC3⟩; obtain ⟨ao3, cap3, rfl, _, _⟩ := hu3.form; have hfree : q.ps ≠ [] → ∀ a n c, (.slice ao3 F.length cap3 : Value) = .slice (some a) n c → _ := hown.free (q := q) hF3 (Nat.le_refl _); have hC := hC3.alloc hC3.size (.cells #[.string N, .int .i64 n, .slice ao3 F.length cap3] 25); have hB := HB.out.trans (hC.mono HB.out.size); have hown := hown.below hC (Nat.le_refl _); have hvp := hvp.below hC (Nat.le_refl _); have hu3 := hu3.below ((Below.refl _ _).alloc (Nat.le_refl _) (.cells #[.string N, .int .i64 n, .slice ao3 F.length cap3] 25)) (Nat.le_refl _); obtain ⟨n0, n1, n2, _, _, _, _⟩ := (Blk.new w3 25 #[.string N, .int .i64 n, .slice ao3 F.length cap3]).f3) | (at_builtin; refine wpList_appVK q HN.out HNp.out rfl rfl Tryd.underlying38 infoV (by rw [World.size_alloc]; rfl) rfl hown (hu3.to HFp.out) hfree hB (Nat.le_refl _) ?_ ?_; (focus omega); intro v1 w4 ho1 hb1 hk1))
              go_roundw
              case rel => exact ⟨k + 1, _, by omega, by go_num, ho1, Lib.hid hb1, by rw [List.length_append]; simp; omega, hvp.kept hk1 (by decide), Lib.hid (by rw [HST.out]; simp only [List.map_append, List.map_cons])⟩
              case measure => simp [intOf]; omega
          · rw [if_pos hc] at hst
            have t0 : (c != 0) = true := by simpa using hc
            have HE := Lib.hid (HPB.out c hst hc)
            clear hst hc
            go_wp2_with ((go_at_call 11; refine (HPA.out _).mono ?_; rintro e w3 ⟨u3, rfl, hu3, hF3, hC3⟩; obtain ⟨ao3, cap3, rfl, _, _⟩ := hu3.form; have hfree : q.ps ≠ [] → ∀ a n c, (.slice ao3 F.length cap3 : Value) = .slice (some a) n c → _ := hown.free (q := q) hF3 (Nat.le_refl _); have hC := hC3.alloc hC3.size (.cells #[.string N, .int .i64 n, .slice ao3 F.length cap3] 25); have hB := HB.out.trans (hC.mono HB.out.size); have hown := hown.below hC (Nat.le_refl _); have hvp := hvp.below hC (Nat.le_refl _); have hu3 := hu3.below ((Below.refl _ _).alloc (Nat.le_refl _) (.cells #[.string N, .int .i64 n, .slice ao3 F.length cap3] 25)) (Nat.le_refl _); obtain ⟨n0, n1, n2, _, _, _, _⟩ := (Blk.new w3 25 #[.string N, .int .i64 n, .slice ao3 F.length cap3]).f3))
            go_ret2
            exact ⟨_, by rw [HE.out]; rfl, by rw [HE.out]; exact RHops.nil _, HB1.out.trans (hB.mono HB1.out.size)⟩
        · have HST := Lib.hid (show hopsGo [] A = hopsGo (R.map Prod.fst) ((VS.drop (j + 1)).flatMap pp) by rw [HP.out, List.drop_eq_nil_iff.2 (by omega)]; rfl)
          clear HP
          go_wp2
          go_roundw
          case rel => exact ⟨j + 1, R, by omega, by go_num, hown, HB, hR, HST⟩
          case measure => simp [intOf]; omega
    · have hst : hopsGo [] A = (R.map Prod.fst, 0) := by rw [HP.out, List.drop_eq_nil_iff.2 (by omega)]; rfl
      have hln := hops_len hown
      have HBF := Lib.hid (HB1.out.trans (HB.out.mono HB1.out.size))
      by_cases hz : R.length = 0
      · have t1 : ((R.length : Int) == 0) = true := by rw [hz]; rfl
        have HE := Lib.hid (HPN.out (by rw [hst, List.eq_nil_of_length_eq_zero hz]; rfl))
        clear hst hz HP
        go_wp2
        go_ret2
        exact ⟨_, by rw [HE.out]; rfl, by rw [HE.out]; exact RHops.nil _, HBF.out⟩
      · have t1 : ((R.length : Int) == 0) = false := by rw [beq_eq_false_iff_ne]; omega
        have HE := Lib.hid (HPO.out _ hst (by intro e; have := congrArg List.length e; rw [List.length_map, List.length_nil] at this; omega))
        clear hst hz HP
        go_wp2
        go_ret2
        exact ⟨_, by rw [HE.out]; rfl, by rw [HE.out]; exact hown.read, HBF.out⟩

end Go.Proofs.YtjohecbmeoalaaaDoor
