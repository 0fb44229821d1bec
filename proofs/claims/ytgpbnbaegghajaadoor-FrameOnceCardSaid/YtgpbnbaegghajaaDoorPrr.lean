/-
  rosterref06.Print.
-/
import Derived.Test.YtgpbnbaegghajaaDoorPrt
namespace Go.Proofs.YtgpbnbaegghajaaDoor
open Go.RowKit Go.Sort

set_option maxRecDepth 100000 in
set_option maxHeartbeats 12800000 in
theorem printR_c (M T R B : ByteArray) (x : Int) (u : Value) (H : List Hdr) (hM : M.size ≤ 1073741824) (hT : T.size ≤ 1073741824) (hR : R.size ≤ 1073741824) (hBs : B.size ≤ 1073741824) (x0 : -9223372036854775808 ≤ x) (x1 : x ≤ 9223372036854775807) (w : World) (hu : RHdrs w u H)
    (hb : ∀ h ∈ H, h.name.length ≤ 1073741824 ∧ h.value.length ≤ 1073741824) :
    Calls Tryd.prog 20 #[.agg #[.string M, .string T, .int .i64 x, .string R, u, .string B]] w fun e w' => e = .returned (.tuple #[.string (bs (printM ⟨us M, us T, x, us R, H, us B⟩).1), .int .i64 (printM ⟨us M, us T, x, us R, H, us B⟩).2]) ∧ Below w.heap.size w w' := by
  obtain ⟨ao, cap, rfl, hm1, c1⟩ := hu.form
  unfold maxLen at hm1
  have C1 := Lib.hid c1
  have HBD := Lib.hid hb
  have HC := Lib.hid (fun wx (hx : Below w.heap.size w wx) => checkR_c M T R B x (.slice ao H.length cap) H (by omega) (by omega) (by omega) wx (hu.below hx (Nat.le_refl _)) (fun h hh => by have := hb h hh; omega))
  have hno := printM_no ⟨us M, us T, x, us R, H, us B⟩
  have hlo := printM_long ⟨us M, us T, x, us R, H, us B⟩
  have hye := printM_yes ⟨us M, us T, x, us R, H, us B⟩
  have hcl := check_len ⟨us M, us T, x, us R, H, us B⟩
  have htx := textM_eq ⟨us M, us T, x, us R, H, us B⟩
  have hsm := startL_m ⟨us M, us T, x, us R, H, us B⟩
  have hsr := startL_r ⟨us M, us T, x, us R, H, us B⟩
  clear c1 hu hb
  have hB0 : Below w.heap.size w (w.alloc (.cells #[.string M, .string T, .int .i64 x, .string R, .slice ao H.length cap, .string B] 25)) := (Below.refl _ _).alloc (Nat.le_refl _) _
  obtain ⟨w0, hw0⟩ : ∃ w0, w0 = w.alloc (.cells #[.string M, .string T, .int .i64 x, .string R, .slice ao H.length cap, .string B] 25) := ⟨_, rfl⟩
  have bm : Blk w0 w.heap.size 25 #[.string M, .string T, .int .i64 x, .string R, .slice ao H.length cap, .string B] := by rw [hw0]; exact Blk.new _ _ _
  rw [← hw0] at hB0
  have HW0 := Lib.hid hw0.symm
  clear hw0
  obtain ⟨_, _, _, _, _, _, f0, f1, f2, f3, f4, f5, z2⟩ := bm.g6
  have h32 : (⟨#[32]⟩ : ByteArray).size = 1 := rfl
  have hcr : (⟨#[13, 10]⟩ : ByteArray).size = 2 := rfl
  have hver : (⟨#[83, 73, 80, 47, 50, 46, 48]⟩ : ByteArray).size = 7 := rfl
  have hver2 : (⟨#[83, 73, 80, 47, 50, 46, 48, 32]⟩ : ByteArray).size = 8 := rfl
  have hcln : (⟨#[67, 111, 110, 116, 101, 110, 116, 45, 76, 101, 110, 103, 116, 104, 58, 32]⟩ : ByteArray).size = 16 := rfl
  have hcr4 : (⟨#[13, 10, 13, 10]⟩ : ByteArray).size = 4 := rfl
  have hcol : (⟨#[58, 32]⟩ : ByteArray).size = 2 := rfl
  obtain ⟨C, hCd⟩ : ∃ C, C = checkS ⟨us M, us T, x, us R, H, us B⟩ := ⟨_, rfl⟩
  rw [← hCd] at HC hno hlo hye hcl
  by_cases hc0 : C = 0
  case neg =>
    have HE := Lib.hid (hno hc0)
    have t0 : (C != 0) = true := by simpa using hc0
    clear hno hlo hye hcl htx hsm hsr hCd hc0
    go_enter Tryd.func20, Tryd.ntmps20
    go_wp2_with (go_at_call 22; (try rw [HW0.out]); refine (HC.out _ hB0).mono ?_; rintro e w1 ⟨rfl, hC⟩; have hB0 := hB0.trans (hC.mono hB0.size); have bm := bm.call hC; obtain ⟨_, _, _, _, _, _, f0, f1, f2, f3, f4, f5, z2⟩ := bm.g6)
    go_ret2
    exact ⟨by rw [HE.out]; rfl, hB0⟩
  subst hc0
  have h64 := hcl rfl
  have HLO := Lib.hid (hlo rfl)
  have HYE := Lib.hid (hye rfl)
  have htl := fun d => tail_us d B (B.size : Int)
  have HTX := Lib.hid htx
  have D1 := Lib.hid (fun wx => digitsR_c x x0 x1 wx)
  have D2 := Lib.hid (fun wx => digitsR_c (B.size : Int) (by omega) (by omega) wx)
  have l1 : (bs (digits x)).size ≤ 20 := by rw [size_bs]; exact digits_len x
  have l2 : (bs (digits (B.size : Int))).size ≤ 20 := by rw [size_bs]; exact digits_len (B.size : Int)
  have uB : (B.size : Int) = ((us B).length : Int) := by rw [length_us]
  have u1 := us_bs (digits x)
  have u2 := us_bs (digits (B.size : Int))
  obtain ⟨d1, hd1⟩ : ∃ d, d = bs (digits x) := ⟨_, rfl⟩
  obtain ⟨d2, hd2⟩ : ∃ d, d = bs (digits (B.size : Int)) := ⟨_, rfl⟩
  rw [← hd1] at D1 l1 u1
  rw [← hd2] at D2 l2 u2
  clear hd1 hd2 hcl hno hlo hye htx hsm hsr hCd
  have hmz : us M = [] ↔ M.size = 0 := by rw [← length_us, List.length_eq_zero_iff]
  by_cases hmm : M.size = 0
  case neg =>
    have HST := Lib.hid (startM_us M T x (us R) H (us B) (fun e => hmm (hmz.1 e)))
    have pE := ne_empty hmm
    have pF := isEmpty_f hmm
    clear hmz hmm
    go_enter Tryd.func20, Tryd.ntmps20
    go_wp2_with (go_at_call 22; (try rw [HW0.out]); refine (HC.out _ hB0).mono ?_; rintro e w1 ⟨rfl, hC⟩; have hB0 := hB0.trans (hC.mono hB0.size); have bm := bm.call hC; obtain ⟨_, _, _, _, _, _, f0, f1, f2, f3, f4, f5, z2⟩ := bm.g6)
    obtain ⟨ST, hSTd⟩ : ∃ ST, ST = us (M ++ ⟨#[32]⟩ ++ T ++ ⟨#[32]⟩ ++ ⟨#[83, 73, 80, 47, 50, 46, 48]⟩ ++ ⟨#[13, 10]⟩) := ⟨_, rfl⟩
    rw [← hSTd] at HST
    have hSTl : ST.length ≤ 4294967296 := by rw [hSTd, length_us]; simp only [size_cat, h32, hcr, hver]; omega
    have M4 := Lib.hid (fun (wx : World) (h : Drn w1 wx) => (boxedCell (bm.call h.below) 4 : wx.cell? ⟨w.heap.size, 4, none⟩ = some (.slice ao H.length cap)))
    have M5 := Lib.hid (fun (wx : World) (h : Drn w1 wx) => (boxedCell (bm.call h.below) 5 : wx.cell? ⟨w.heap.size, 5, none⟩ = some (.string B)))
    clear f0 f1 f2 f3 f4 f5
    go_loopw [5, 4] (fun i s wr => ∃ (k : Nat) (S : ByteArray), k ≤ H.length ∧ i = .int .i64 k ∧ s = .string S ∧ us S = ST ++ (H.take k).flatMap lineH ∧ Drn w1 wr) (fun i _ _ => H.length - (intOf i).toNat)
    case atStart => exact ⟨0, _, Nat.zero_le _, rfl, rfl, by rw [hSTd]; simp, by first | exact Drn.refl _ | exact ⟨_, rfl⟩⟩
    case round =>
      obtain ⟨k, S, hk, rfl, rfl, hL, hD⟩ := hrel
      clear hSTd
      have hBw : Below w.heap.size w wr := hB0.trans hD.below
      have m4 := M4.out wr hD
      have m5 := M5.out wr hD
      by_cases hlt : k < H.length
      · obtain ⟨b, off, rfl, hbl, hc1⟩ := C1.out (by omega)
        obtain ⟨hbn, hbv⟩ := HBD.out _ (List.getElem_mem hlt)
        obtain ⟨N, hN⟩ : ∃ N, N = bs H[k].name := ⟨_, rfl⟩
        obtain ⟨V, hV⟩ : ∃ N, N = bs H[k].value := ⟨_, rfl⟩
        have x0 : wr.cell? ⟨b, off + k * 2, none⟩ = some (.string N) := by
          rw [hBw.cell (p := ⟨b, off + k * 2, none⟩) hbl, hN]; exact (hc1 k hlt).1
        have x1 : wr.cell? ⟨b, off + k * 2 + 1, none⟩ = some (.string V) := by
          rw [hBw.cell (p := ⟨b, off + k * 2 + 1, none⟩) hbl, hV]; exact (hc1 k hlt).2
        have hNs : N.size ≤ 1073741824 := by rw [hN, size_bs]; exact hbn
        have hVs : V.size ≤ 1073741824 := by rw [hV, size_bs]; exact hbv
        have k0 : (0 : Int) ≤ (k : Int) := by omega
        have k1 : (k : Int) < (H.length : Int) := by omega
        have hfl := flatH_le (H.take k) (fun h hh => HBD.out h (List.mem_of_mem_take hh))
        rw [List.length_take, Nat.min_eq_left (by omega)] at hfl
        have hln := lineH_us N V H[k] (by rw [hN, us_bs]) (by rw [hV, us_bs])
        have hnx := flatH_next H k hlt
        rw [← hln] at hnx
        have HNX := Lib.hid (show us (S ++ N ++ ⟨#[58, 32]⟩ ++ V ++ ⟨#[13, 10]⟩) = ST ++ (H.take (k + 1)).flatMap lineH by rw [hnx, ← List.append_assoc, ← hL]; simp only [us_cat, List.append_assoc])
        have hSs : S.size ≤ 200000000000 := by rw [← length_us, hL, List.length_append]; omega
        clear hN hV hc1 hbl hbn hbv hfl hln hnx hL
        go_wp2
        go_quiet (fail)
        go_wp2
        go_roundw
        case rel => exact ⟨k + 1, _, by omega, by go_num, rfl, HNX.out, hD.step _⟩
        case measure => simp [intOf]; omega
      · have hkl : ¬ ((k : Int) < (H.length : Int)) := by omega
        have hk' : k = H.length := by omega
        have hfl := flatH_le H (fun h hh => HBD.out h hh)
        have hfin : us (S ++ ⟨#[67, 111, 110, 116, 101, 110, 116, 45, 76, 101, 110, 103, 116, 104, 58, 32]⟩ ++ d2 ++ ⟨#[13, 10]⟩ ++ ⟨#[13, 10]⟩ ++ B) = textM ⟨us M, us T, x, us R, H, us B⟩ := by
          rw [HTX.out, ← HST.out, ← hk', ← hL, ← htl d2 u2 uB]
          rw [show (⟨#[13, 10, 13, 10]⟩ : ByteArray) = ⟨#[13, 10]⟩ ++ ⟨#[13, 10]⟩ from rfl]
          simp only [us_cat, List.append_assoc]
        have hSs : S.size ≤ 200000000000 := by rw [← length_us, hL, hk', List.take_length, List.length_append]; omega
        obtain ⟨TX, hTX⟩ : ∃ TX, TX = textM ⟨us M, us T, x, us R, H, us B⟩ := ⟨_, rfl⟩
        rw [← hTX] at hfin HLO HYE
        have hsz : S.size + 16 + d2.size + 2 + 2 + B.size = TX.length := by rw [← hfin, length_us]; simp only [size_cat, hcln, hcr]
        have HFIN := Lib.hid hfin
        clear hfin hL hfl hTX HTX hk'
        go_wp2
        go_quiet ((go_at_call 49; exact Calls.quiet_of (D2.out _)))
        by_cases h4 : 4096 < TX.length
        · have HE := Lib.hid (HLO.out h4)
          have t4 : (4096 : Int) < (S.size : Int) + 16 + (d2.size : Int) + 2 + 2 + (B.size : Int) := by omega
          clear h4 hsz
          go_wp2
          go_ret2
          exact ⟨by rw [HE.out]; rfl, hBw.trans (Drn.below ⟨_, rfl⟩)⟩
        · have HE := Lib.hid (HYE.out h4)
          have t4 : ¬ ((4096 : Int) < (S.size : Int) + 16 + (d2.size : Int) + 2 + 2 + (B.size : Int)) := by omega
          clear h4 hsz
          go_wp2
          go_ret2
          exact ⟨by rw [HE.out, ← HFIN.out]; dsimp only; rw [bs_us]; rfl, hBw.trans (Drn.below ⟨_, rfl⟩)⟩
  · have HST := Lib.hid (startR_us M d1 R (us T) x H (us B) (hmz.2 hmm) u1)
    obtain rfl : M = ⟨#[]⟩ := eq_empty hmm
    clear hmz hmm
    go_enter Tryd.func20, Tryd.ntmps20
    go_wp2_with (go_at_call 22; (try rw [HW0.out]); refine (HC.out _ hB0).mono ?_; rintro e w1 ⟨rfl, hC⟩; have hB0 := hB0.trans (hC.mono hB0.size); have bm := bm.call hC; obtain ⟨_, _, _, _, _, _, f0, f1, f2, f3, f4, f5, z2⟩ := bm.g6)
    go_quiet ((go_at_call 49; exact Calls.quiet_of (D1.out _)))
    go_wp2
    obtain ⟨ST, hSTd⟩ : ∃ ST, ST = us (⟨#[83, 73, 80, 47, 50, 46, 48, 32]⟩ ++ d1 ++ ⟨#[32]⟩ ++ R ++ ⟨#[13, 10]⟩) := ⟨_, rfl⟩
    rw [← hSTd] at HST
    have hSTl : ST.length ≤ 4294967296 := by rw [hSTd, length_us]; simp only [size_cat, h32, hcr, hver2]; omega
    have M4 := Lib.hid (fun (wx : World) (h : Drn w1 wx) => (boxedCell (bm.call h.below) 4 : wx.cell? ⟨w.heap.size, 4, none⟩ = some (.slice ao H.length cap)))
    have M5 := Lib.hid (fun (wx : World) (h : Drn w1 wx) => (boxedCell (bm.call h.below) 5 : wx.cell? ⟨w.heap.size, 5, none⟩ = some (.string B)))
    clear f0 f1 f2 f3 f4 f5
    go_loopw [5, 4] (fun i s wr => ∃ (k : Nat) (S : ByteArray), k ≤ H.length ∧ i = .int .i64 k ∧ s = .string S ∧ us S = ST ++ (H.take k).flatMap lineH ∧ Drn w1 wr) (fun i _ _ => H.length - (intOf i).toNat)
    case atStart => exact ⟨0, _, Nat.zero_le _, rfl, rfl, by rw [hSTd]; simp, by first | exact Drn.refl _ | exact ⟨_, rfl⟩⟩
    case round =>
      obtain ⟨k, S, hk, rfl, rfl, hL, hD⟩ := hrel
      clear hSTd
      have hBw : Below w.heap.size w wr := hB0.trans hD.below
      have m4 := M4.out wr hD
      have m5 := M5.out wr hD
      by_cases hlt : k < H.length
      · obtain ⟨b, off, rfl, hbl, hc1⟩ := C1.out (by omega)
        obtain ⟨hbn, hbv⟩ := HBD.out _ (List.getElem_mem hlt)
        obtain ⟨N, hN⟩ : ∃ N, N = bs H[k].name := ⟨_, rfl⟩
        obtain ⟨V, hV⟩ : ∃ N, N = bs H[k].value := ⟨_, rfl⟩
        have x0 : wr.cell? ⟨b, off + k * 2, none⟩ = some (.string N) := by
          rw [hBw.cell (p := ⟨b, off + k * 2, none⟩) hbl, hN]; exact (hc1 k hlt).1
        have x1 : wr.cell? ⟨b, off + k * 2 + 1, none⟩ = some (.string V) := by
          rw [hBw.cell (p := ⟨b, off + k * 2 + 1, none⟩) hbl, hV]; exact (hc1 k hlt).2
        have hNs : N.size ≤ 1073741824 := by rw [hN, size_bs]; exact hbn
        have hVs : V.size ≤ 1073741824 := by rw [hV, size_bs]; exact hbv
        have k0 : (0 : Int) ≤ (k : Int) := by omega
        have k1 : (k : Int) < (H.length : Int) := by omega
        have hfl := flatH_le (H.take k) (fun h hh => HBD.out h (List.mem_of_mem_take hh))
        rw [List.length_take, Nat.min_eq_left (by omega)] at hfl
        have hln := lineH_us N V H[k] (by rw [hN, us_bs]) (by rw [hV, us_bs])
        have hnx := flatH_next H k hlt
        rw [← hln] at hnx
        have HNX := Lib.hid (show us (S ++ N ++ ⟨#[58, 32]⟩ ++ V ++ ⟨#[13, 10]⟩) = ST ++ (H.take (k + 1)).flatMap lineH by rw [hnx, ← List.append_assoc, ← hL]; simp only [us_cat, List.append_assoc])
        have hSs : S.size ≤ 200000000000 := by rw [← length_us, hL, List.length_append]; omega
        clear hN hV hc1 hbl hbn hbv hfl hln hnx hL
        go_wp2
        go_quiet (fail)
        go_wp2
        go_roundw
        case rel => exact ⟨k + 1, _, by omega, by go_num, rfl, HNX.out, hD.step _⟩
        case measure => simp [intOf]; omega
      · have hkl : ¬ ((k : Int) < (H.length : Int)) := by omega
        have hk' : k = H.length := by omega
        have hfl := flatH_le H (fun h hh => HBD.out h hh)
        have hfin : us (S ++ ⟨#[67, 111, 110, 116, 101, 110, 116, 45, 76, 101, 110, 103, 116, 104, 58, 32]⟩ ++ d2 ++ ⟨#[13, 10]⟩ ++ ⟨#[13, 10]⟩ ++ B) = textM ⟨us ⟨#[]⟩, us T, x, us R, H, us B⟩ := by
          rw [HTX.out, ← HST.out, ← hk', ← hL, ← htl d2 u2 uB]
          rw [show (⟨#[13, 10, 13, 10]⟩ : ByteArray) = ⟨#[13, 10]⟩ ++ ⟨#[13, 10]⟩ from rfl]
          simp only [us_cat, List.append_assoc]
        have hSs : S.size ≤ 200000000000 := by rw [← length_us, hL, hk', List.take_length, List.length_append]; omega
        obtain ⟨TX, hTX⟩ : ∃ TX, TX = textM ⟨us ⟨#[]⟩, us T, x, us R, H, us B⟩ := ⟨_, rfl⟩
        rw [← hTX] at hfin HLO HYE
        have hsz : S.size + 16 + d2.size + 2 + 2 + B.size = TX.length := by rw [← hfin, length_us]; simp only [size_cat, hcln, hcr]
        have HFIN := Lib.hid hfin
        clear hfin hL hfl hTX HTX hk'
        go_wp2
        go_quiet ((go_at_call 49; exact Calls.quiet_of (D2.out _)))
        by_cases h4 : 4096 < TX.length
        · have HE := Lib.hid (HLO.out h4)
          have t4 : (4096 : Int) < (S.size : Int) + 16 + (d2.size : Int) + 2 + 2 + (B.size : Int) := by omega
          clear h4 hsz
          go_wp2
          go_ret2
          exact ⟨by rw [HE.out]; rfl, hBw.trans (Drn.below ⟨_, rfl⟩)⟩
        · have HE := Lib.hid (HYE.out h4)
          have t4 : ¬ ((4096 : Int) < (S.size : Int) + 16 + (d2.size : Int) + 2 + 2 + (B.size : Int)) := by omega
          clear h4 hsz
          go_wp2
          go_ret2
          exact ⟨by rw [HE.out, ← HFIN.out]; dsimp only; rw [bs_us]; rfl, hBw.trans (Drn.below ⟨_, rfl⟩)⟩

end Go.Proofs.YtgpbnbaegghajaaDoor
