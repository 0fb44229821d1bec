/-
  Packed: XRpu.
-/
import Derived.Test.YtipdiddjhimdcaaGreatDoorK09
import Derived.Test.YtipdiddjhimdcaaGreatDoorK10
import Derived.Deep.RegionHeld3
namespace Go.Proofs.YtipdiddjhimdcaaGreatDoor
set_option linter.unusedSimpArgs false
set_option linter.unusedVariables false
open Go.RowKit Go.Sort

theorem nmCkR : (Tryz.f119.name == "runtime.NumGoroutine") = false := by kernel_rfl
theorem bdCkR : Tryz.f119.body.isNone = false := by kernel_rfl
theorem hasb_cut (c : UInt8) : ∀ l : List UInt8, hasb l c = (cutb c l).2.2
  | [] => rfl
  | b :: l => by
    unfold hasb
    rw [List.any_cons, cutb]
    by_cases h : b.toNat = c.toNat
    · rw [if_pos h]; simp [h]
    · rw [if_neg h, show (b.toNat == c.toNat) = false by simpa using h, Bool.false_or]
      exact hasb_cut c l

set_option maxRecDepth 100000 in
set_option maxHeartbeats 12800000 in
theorem parseUR_c (s : ByteArray) (hs : s.size ≤ 4294967280) (w : World) :
    Calls Tryz.prog 68 #[.string s] w (UriPost (parseU (us s)) w) := by
  have HCT := Lib.hid (fun wx => cutR_c s (by omega) 58 wx)
  rw [show (((58 : UInt8).toNat : Nat) : Int) = 58 from rfl] at HCT
  have hbad := parseU_bad (us s)
  have hgo := parseU_go (us s)
  have hcl := cutb_le 58 (us s)
  rw [length_us] at hcl
  obtain ⟨R, hR⟩ : ∃ R, R = parseU (us s) := ⟨_, rfl⟩
  rw [← hR] at hbad hgo ⊢
  obtain ⟨q, hq⟩ : ∃ q, q = cutb 58 (us s) := ⟨_, rfl⟩
  rw [← hq] at HCT hbad hgo hcl
  clear hR hq
  obtain ⟨hd, rest, ok⟩ := q
  dsimp only at HCT hbad hgo hcl
  have HL := Lib.hid (fun wx => lowerR_c (bs hd) (by rw [size_bs]; omega) wx)
  rw [us_bs] at HL
  have HSC := Lib.hid (fun wx => schemeR_c (bs (lowr hd)) wx)
  rw [us_bs] at HSC
  have scl : (lowr hd).length ≤ 4294967280 := by rw [lowr_length]; omega
  obtain ⟨sc, hsc⟩ : ∃ x, x = lowr hd := ⟨_, rfl⟩
  rw [← hsc] at HL HSC hbad hgo scl
  obtain ⟨SC, hSC⟩ : ∃ x, x = bs sc := ⟨_, rfl⟩
  rw [← hSC] at HL HSC
  have HSCu := Lib.hid (show us SC = sc by rw [hSC, us_bs])
  have hSCl : SC.size ≤ 4294967280 := by rw [hSC, size_bs]; exact scl
  clear hsc hSC scl
  have hZ0 : Below w.heap.size w ((w.alloc (.cells #[.string ⟨#[]⟩, .string ⟨#[]⟩, .string ⟨#[]⟩, .int .i64 0, .slice none 0 0, .slice none 0 0] 24)).alloc (.cells #[.string ⟨#[]⟩, .string ⟨#[]⟩, .string ⟨#[]⟩, .int .i64 0, .slice none 0 0, .slice none 0 0] 24)) := ((Below.refl _ _).alloc (Nat.le_refl _) _).alloc (by rw [World.size_alloc]; omega) _
  have bmR0 : Blk ((w.alloc (.cells #[.string ⟨#[]⟩, .string ⟨#[]⟩, .string ⟨#[]⟩, .int .i64 0, .slice none 0 0, .slice none 0 0] 24)).alloc (.cells #[.string ⟨#[]⟩, .string ⟨#[]⟩, .string ⟨#[]⟩, .int .i64 0, .slice none 0 0, .slice none 0 0] 24)) w.heap.size 24 #[.string ⟨#[]⟩, .string ⟨#[]⟩, .string ⟨#[]⟩, .int .i64 0, .slice none 0 0, .slice none 0 0] := (Blk.new w 24 #[.string ⟨#[]⟩, .string ⟨#[]⟩, .string ⟨#[]⟩, .int .i64 0, .slice none 0 0, .slice none 0 0]).alloc _
  have bmN0 : Blk ((w.alloc (.cells #[.string ⟨#[]⟩, .string ⟨#[]⟩, .string ⟨#[]⟩, .int .i64 0, .slice none 0 0, .slice none 0 0] 24)).alloc (.cells #[.string ⟨#[]⟩, .string ⟨#[]⟩, .string ⟨#[]⟩, .int .i64 0, .slice none 0 0, .slice none 0 0] 24)) (w.heap.size + 1) 24 #[.string ⟨#[]⟩, .string ⟨#[]⟩, .string ⟨#[]⟩, .int .i64 0, .slice none 0 0, .slice none 0 0] := by
    have := Blk.new (w.alloc (.cells #[.string ⟨#[]⟩, .string ⟨#[]⟩, .string ⟨#[]⟩, .int .i64 0, .slice none 0 0, .slice none 0 0] 24)) 24 #[.string ⟨#[]⟩, .string ⟨#[]⟩, .string ⟨#[]⟩, .int .i64 0, .slice none 0 0, .slice none 0 0]
    rwa [World.size_alloc] at this
  have hs2 : ((w.alloc (.cells #[.string ⟨#[]⟩, .string ⟨#[]⟩, .string ⟨#[]⟩, .int .i64 0, .slice none 0 0, .slice none 0 0] 24)).alloc (.cells #[.string ⟨#[]⟩, .string ⟨#[]⟩, .string ⟨#[]⟩, .int .i64 0, .slice none 0 0, .slice none 0 0] 24)).heap.size = w.heap.size + 2 := by rw [World.size_alloc, World.size_alloc]
  obtain ⟨w0, hw0⟩ : ∃ w0, w0 = (w.alloc (.cells #[.string ⟨#[]⟩, .string ⟨#[]⟩, .string ⟨#[]⟩, .int .i64 0, .slice none 0 0, .slice none 0 0] 24)).alloc (.cells #[.string ⟨#[]⟩, .string ⟨#[]⟩, .string ⟨#[]⟩, .int .i64 0, .slice none 0 0, .slice none 0 0] 24) := ⟨_, rfl⟩
  rw [← hw0] at hZ0 bmR0 bmN0 hs2
  have HX := Lib.hid (fun (wx : World) (h : Below w0.heap.size w0 wx) => (show Blk wx w.heap.size 24 #[.string ⟨#[]⟩, .string ⟨#[]⟩, .string ⟨#[]⟩, .int .i64 0, .slice none 0 0, .slice none 0 0] ∧ Blk wx (w.heap.size + 1) 24 #[.string ⟨#[]⟩, .string ⟨#[]⟩, .string ⟨#[]⟩, .int .i64 0, .slice none 0 0, .slice none 0 0] ∧ Below w.heap.size w wx from ⟨bmR0.call h, bmN0.call h, hZ0.trans (h.mono hZ0.size)⟩))
  have HW0 := Lib.hid hw0
  have HS2 := Lib.hid hs2
  have hZ : Below w0.heap.size w0 w0 := Below.refl _ _
  obtain ⟨bmR, bmN, hBB⟩ := HX.out _ hZ
  obtain ⟨r0, r1, r2, r3, r4, r5, g0, g1, g2, g3, g4, g5, zR⟩ := blk_h6 bmR
  obtain ⟨m0, m1, m2, m3, m4, m5, _, _, _, _, _, _, zN⟩ := blk_h6 bmN
  clear hw0 hZ0 bmR0 bmN0 hs2
  by_cases hok : ok = false ∨ schemeS sc = false
  case pos =>
    have HR := Lib.hid (hbad hok)
    clear hbad hgo
    cases ok
    case' true => obtain hs0 : schemeS sc = false := by rcases hok with h | h; cases h; exact h
    case' true => rw [hs0] at HSC
    case' true => clear hs0
    all_goals
      clear hok
      go_enter Tryz.func68, Tryz.ntmps68
      go_wp2_with (first | (go_at_call 122; (try rw [← HW0.out]); ((with_reducible refine (HCT.out _).mono ?_); rintro e w1 ⟨rfl, hD⟩); have hZ := hZ.trans (hD.below (B := w0.heap.size)); obtain ⟨bmR, bmN, hBB⟩ := HX.out _ hZ; obtain ⟨r0, r1, r2, r3, r4, r5, g0, g1, g2, g3, g4, g5, zR⟩ := blk_h6 bmR; obtain ⟨m0, m1, m2, m3, m4, m5, _, _, _, _, _, _, zN⟩ := blk_h6 bmN) | (go_at_call 123; ((with_reducible refine (HL.out _).mono ?_); rintro e w2 ⟨rfl, hC2⟩); have hZ := hZ.trans (hC2.mono hZ.size); obtain ⟨bmR, bmN, hBB⟩ := HX.out _ hZ; obtain ⟨r0, r1, r2, r3, r4, r5, g0, g1, g2, g3, g4, g5, zR⟩ := blk_h6 bmR; obtain ⟨m0, m1, m2, m3, m4, m5, _, _, _, _, _, _, zN⟩ := blk_h6 bmN) | (go_at_call 124; ((with_reducible refine (HSC.out _).mono ?_); rintro e wx ⟨rfl, rfl⟩)))
      refine bodyPost_ret (v := .tuple #[.agg #[.string ⟨#[]⟩, .string ⟨#[]⟩, .string ⟨#[]⟩, .int .i64 0, .slice none 0 0, .slice none 0 0], .int .i64 30]) (by simp [results, Tryz.results68, go_sem, r0, r1, r2, r3, r4, r5]) rfl ?_
      exact ⟨_, _, by (rw [HR.out]; rfl), by (rw [HR.out]; exact .inl ⟨⟨_, _, rfl⟩, rfl⟩), by (rw [HR.out]; exact .inl ⟨⟨_, _, rfl⟩, rfl⟩), Fresh.nil _ _ _, Fresh.nil _ _ _, ((((((hBB.setCell (Nat.le_refl _) _).setCell (Nat.le_refl _) _).setCell (Nat.le_refl _) _).setCell (Nat.le_refl _) _).setCell (Nat.le_refl _) _).setCell (Nat.le_refl _) _)⟩
  obtain rfl : ok = true := by cases ok; exact absurd (.inl rfl) hok; rfl
  have hs1 : schemeS sc = true := by cases h : schemeS sc; exact absurd (.inr h) hok; rfl
  have HRg := Lib.hid (hgo rfl hs1)
  rw [hs1] at HSC
  clear hbad hgo hok
  have HCT2 := Lib.hid (fun wx => cutR_c (bs rest) (by rw [size_bs]; omega) 64 wx)
  rw [show (((64 : UInt8).toNat : Nat) : Int) = 64 from rfl] at HCT2
  have HHA := Lib.hid (fun wx => has3_c (bs rest) (by rw [size_bs]; omega) 64 wx)
  rw [show (((64 : UInt8).toNat : Nat) : Int) = 64 from rfl] at HHA
  rw [us_bs] at HCT2 HHA
  rw [hasb_cut] at HHA
  have hcl2 := cutb_le 64 rest
  have hc2 := parseU2_cases sc rest
  rw [← HRg.out] at hc2
  clear HRg
  obtain ⟨q, hq⟩ : ∃ q, q = cutb 64 rest := ⟨_, rfl⟩
  rw [← hq] at HCT2 HHA hc2 hcl2
  clear hq
  obtain ⟨ua, ub, has⟩ := q
  dsimp only at HCT2 HHA hc2 hcl2
  obtain ⟨RS, hRS⟩ : ∃ x, x = bs rest := ⟨_, rfl⟩
  rw [← hRS] at HCT HCT2 HHA
  have hRSu : us RS = rest := by rw [hRS, us_bs]
  have hRSl : RS.size ≤ 4294967280 := by rw [hRS, size_bs]; omega
  have HPL := Lib.hid (fun wx => writtenR_c (bs ua) ⟨#[38, 61, 43, 36, 44, 59, 63, 47]⟩ (by rw [size_bs]; omega) (by decide) wx)
  rw [us_bs, show us ⟨#[38, 61, 43, 36, 44, 59, 63, 47]⟩ = kUsers from rfl] at HPL
  have hul := optB_len ua kUsers
  obtain ⟨uu, huu⟩ : ∃ x, x = optB (writtenS ua kUsers) := ⟨_, rfl⟩
  rw [← huu] at HPL hc2 hul
  clear huu hRS
  obtain ⟨un, uok⟩ := uu
  dsimp only at HPL hc2 hul
  obtain ⟨UN, hUN⟩ : ∃ x, x = bs un := ⟨_, rfl⟩
  rw [← hUN] at HPL
  have HUNu := Lib.hid (show us UN = un by rw [hUN, us_bs])
  have hUNl : UN.size = un.length := by rw [hUN, size_bs]
  have hun0 : un = [] ↔ UN.size = 0 := by rw [hUNl, List.length_eq_zero_iff]
  rw [hun0, ← hUNl] at hc2
  have HC2 := Lib.hid hc2
  have HUNl := Lib.hid hUNl
  have HRSu := Lib.hid hRSu
  clear hUN hun0 hc2 hUNl hRSu
  go_enter Tryz.func68, Tryz.ntmps68
  go_upto_region 7 with (first | (go_at_call 122; (try rw [← HW0.out]); ((with_reducible refine (HCT.out _).mono ?_); rintro e w1 ⟨rfl, hD⟩); have hZ := hZ.trans (hD.below (B := w0.heap.size)); obtain ⟨bmR, bmN, hBB⟩ := HX.out _ hZ; obtain ⟨r0, r1, r2, r3, r4, r5, g0, g1, g2, g3, g4, g5, zR⟩ := blk_h6 bmR; obtain ⟨m0, m1, m2, m3, m4, m5, _, _, _, _, _, _, zN⟩ := blk_h6 bmN) | (go_at_call 123; ((with_reducible refine (HL.out _).mono ?_); rintro e w2 ⟨rfl, hC2⟩); have hZ := hZ.trans (hC2.mono hZ.size); obtain ⟨bmR, bmN, hBB⟩ := HX.out _ hZ; obtain ⟨r0, r1, r2, r3, r4, r5, g0, g1, g2, g3, g4, g5, zR⟩ := blk_h6 bmR; obtain ⟨m0, m1, m2, m3, m4, m5, _, _, _, _, _, _, zN⟩ := blk_h6 bmN) | (go_at_call 124; ((with_reducible refine (HSC.out _).mono ?_); rintro e wx ⟨rfl, rfl⟩)))
  clear HCT HL HSC
  rcases HC2.out with ⟨rfl, hR⟩ | ⟨rfl, rfl, hR⟩ | ⟨rfl, rfl, hb, hR⟩ | ⟨rfl, rfl, hb, hR⟩
  · have HRS1 := Lib.hid hRSl
    go_upto_region 13 with (first | (go_at_call 125; ((with_reducible refine (HHA.out _).mono ?_); rintro e wx ⟨rfl, rfl⟩)))
    have HCT3 := Lib.hid (fun wx => cutR_c RS (by omega) 63 wx)
    rw [show (((63 : UInt8).toNat : Nat) : Int) = 63 from rfl] at HCT3
    rw [HRSu.out] at HCT3
    have hcl3 := cutb_le 63 rest
    obtain ⟨x, xs, hxs⟩ : ∃ x xs, splitc 59 (cutb 63 rest).1 = x :: xs := ⟨_, _, splitc_cut 59 _⟩
    have hc3 := parseU3_cases sc [] rest x xs hxs
    rw [← hR] at hc3
    have hbx : ∀ p ∈ x :: xs, p.length ≤ 4294967280 := by rw [← hxs]; intro p hp; have := splitc_bd 59 _ p hp; omega
    have hln : (x :: xs).length ≤ 4294967281 := by rw [← hxs]; have := splitc_len 59 (cutb 63 rest).1; omega
    obtain ⟨q, hq⟩ : ∃ q, q = cutb 63 rest := ⟨_, rfl⟩
    rw [← hq] at HCT3 hcl3 hc3 hxs
    clear hq hR
    obtain ⟨fr, bk, asked⟩ := q
    dsimp only at HCT3 hcl3 hc3 hxs
    have HSP := Lib.hid (fun wx => splitR_c (bs fr) (by rw [size_bs]; omega) 59 wx)
    rw [show (((59 : UInt8).toNat : Nat) : Int) = 59 from rfl] at HSP
    rw [us_bs, hxs] at HSP
    have HSP2 := Lib.hid (fun wx => splitR_c (bs bk) (by rw [size_bs]; omega) 38 wx)
    rw [show (((38 : UInt8).toNat : Nat) : Int) = 38 from rfl] at HSP2
    rw [us_bs] at HSP2
    have hxl := hbx x (List.mem_cons_self ..)
    have HWH := Lib.hid (fun wx => whereR_c (bs x) (by rw [size_bs]; omega) wx)
    rw [us_bs] at HWH
    have hwo := where_ok x
    have HRD1 := Lib.hid (fun wx v hv => readR_c v xs ⟨#[91, 93, 47, 58, 38, 43, 36]⟩ (by decide) wx hv (fun p hp => hbx p (List.mem_cons_of_mem _ hp)) (by rw [List.length_cons] at hln; omega))
    rw [show us ⟨#[91, 93, 47, 58, 38, 43, 36]⟩ = kParams from rfl] at HRD1
    have HRD2 := Lib.hid (fun wx v hv => readR_c v (splitc 38 bk) ⟨#[91, 93, 47, 63, 58, 43, 36]⟩ (by decide) wx hv (fun p hp => by have := splitc_bd 38 _ p hp; omega) (by have := splitc_len 38 bk; omega))
    rw [show us ⟨#[91, 93, 47, 63, 58, 43, 36]⟩ = kHeaders from rfl] at HRD2
    have hpb1 := readP_bd kParams xs 4294967280 (fun p hp => hbx p (List.mem_cons_of_mem _ hp))
    have hpb2 := readP_bd kHeaders (splitc 38 bk) 4294967280 (fun p hp => by have := splitc_bd 38 _ p hp; omega)
    unfold ReadPost at HRD1 HRD2
    obtain ⟨W, hW⟩ : ∃ W, W = whereS x := ⟨_, rfl⟩
    obtain ⟨P1, hP1⟩ : ∃ W, W = optP (readGo kParams xs) := ⟨_, rfl⟩
    obtain ⟨P2, hP2⟩ : ∃ W, W = optP (readGo kHeaders (splitc 38 bk)) := ⟨_, rfl⟩
    rw [← hW] at HWH hc3 hwo
    rw [← hP1] at HRD1 hc3 hpb1
    rw [← hP2] at HRD2 hc3 hpb2
    clear hW hP1 hP2 hxs hln hbx hcl3 hxl
    obtain ⟨⟨hl, p⟩, we⟩ := W
    obtain ⟨PL, pok⟩ := P1
    obtain ⟨HL2, hok2⟩ := P2
    dsimp only at HWH hc3 hwo HRD1 HRD2 hpb1 hpb2
    have HPB1 := Lib.hid hpb1
    have HPB2 := Lib.hid hpb2
    obtain ⟨HH, hHH⟩ : ∃ H, H = bs hl := ⟨_, rfl⟩
    rw [← hHH] at HWH
    have HHHu := Lib.hid (show us HH = hl by rw [hHH, us_bs])
    have HHHl := Lib.hid (show HH.size = hl.length by rw [hHH, size_bs])
    clear hHH hpb1 hpb2
    have HWO := Lib.hid hwo
    clear hwo
    rcases hc3 with ⟨hw, hR⟩ | ⟨rfl, rfl, hR⟩ | ⟨rfl, rfl, rfl, rfl, hR⟩ | ⟨rfl, rfl, rfl, hR⟩ | ⟨rfl, rfl, rfl, rfl, hR⟩
    · have HR := Lib.hid hR
      have t7 : (we != 0) = true := by simpa using hw
      clear hR hw
      go_wp2_with (first | (go_at_call 122; ((with_reducible refine (HCT3.out _).mono ?_); rintro e w6 ⟨rfl, hD⟩); have hZ := hZ.trans (hD.below (B := w0.heap.size)); obtain ⟨bmR, bmN, hBB⟩ := HX.out _ hZ; obtain ⟨r0, r1, r2, r3, r4, r5, g0, g1, g2, g3, g4, g5, zR⟩ := blk_h6 bmR; obtain ⟨m0, m1, m2, m3, m4, m5, _, _, _, _, _, _, zN⟩ := blk_h6 bmN) | (go_at_call 127; ((with_reducible refine (HSP.out _).mono ?_); rintro e w7 ⟨v, rfl, hv, hC7⟩); have hZ := hZ.trans (hC7.mono hZ.size); obtain ⟨bmR, bmN, hBB⟩ := HX.out _ hZ; obtain ⟨r0, r1, r2, r3, r4, r5, g0, g1, g2, g3, g4, g5, zR⟩ := blk_h6 bmR; obtain ⟨m0, m1, m2, m3, m4, m5, _, _, _, _, _, _, zN⟩ := blk_h6 bmN; have HV := Lib.hid hv; obtain ⟨ao, cap, rfl, hm1, c1⟩ := hv.form; obtain ⟨b, off, rfl, hb1, hc1⟩ := c1 (by simp); have x0 := hc1 0 (by simp); rw [Nat.add_zero] at x0; have k1 : (0 : Int) < ((x :: xs).length : Int) := (by simp); clear hc1 c1 hv; unfold maxLen at hm1) | (go_at_call 128; ((with_reducible refine (HWH.out _).mono ?_); rintro e w8 ⟨rfl, hC8⟩); have hZ := hZ.trans (hC8.mono hZ.size); obtain ⟨bmR, bmN, hBB⟩ := HX.out _ hZ; obtain ⟨r0, r1, r2, r3, r4, r5, g0, g1, g2, g3, g4, g5, zR⟩ := blk_h6 bmR; obtain ⟨m0, m1, m2, m3, m4, m5, _, _, _, _, _, _, zN⟩ := blk_h6 bmN; have HV := Lib.hid (HV.out.below hC8 (Nat.le_refl _))) | (go_at_call 129; ((with_reducible refine (HRD1.out _ _ (by first | exact HV.out.tailB | exact HV.out.tailA (by first | assumption | omega))).mono ?_); rintro e w9 ⟨u1, rfl, hu1, hF1, hC9⟩); have hF1 := hF1.mono (show w.heap.size + 2 ≤ _ from HS2.out ▸ hZ.size); have hZ := hZ.trans (hC9.mono hZ.size); obtain ⟨bmR, bmN, hBB⟩ := HX.out _ hZ; obtain ⟨r0, r1, r2, r3, r4, r5, g0, g1, g2, g3, g4, g5, zR⟩ := blk_h6 bmR; obtain ⟨m0, m1, m2, m3, m4, m5, _, _, _, _, _, _, zN⟩ := blk_h6 bmN; obtain ⟨ao1, cp1, rfl, _, _⟩ := hu1.form; have HU1 := Lib.hid hu1; have HF1 := Lib.hid hF1; clear hu1 hF1) | (go_at_call 127; ((with_reducible refine (HSP2.out _).mono ?_); rintro e w10 ⟨v2, rfl, hv2, hC10⟩); have HU1 := Lib.hid (HU1.out.below hC10 (Nat.le_refl _)); have hZ := hZ.trans (hC10.mono hZ.size); obtain ⟨bmR, bmN, hBB⟩ := HX.out _ hZ; obtain ⟨r0, r1, r2, r3, r4, r5, g0, g1, g2, g3, g4, g5, zR⟩ := blk_h6 bmR; obtain ⟨m0, m1, m2, m3, m4, m5, _, _, _, _, _, _, zN⟩ := blk_h6 bmN) | (go_at_call 129; ((with_reducible refine (HRD2.out _ _ hv2).mono ?_); rintro e w11 ⟨u2, rfl, hu2, hF2, hC11⟩); have hF2 := hF2.mono (show w.heap.size + 2 ≤ _ from HS2.out ▸ hZ.size); have HU1 := Lib.hid (HU1.out.below hC11 (Nat.le_refl _)); have hZ := hZ.trans (hC11.mono hZ.size); obtain ⟨bmR, bmN, hBB⟩ := HX.out _ hZ; obtain ⟨r0, r1, r2, r3, r4, r5, g0, g1, g2, g3, g4, g5, zR⟩ := blk_h6 bmR; obtain ⟨m0, m1, m2, m3, m4, m5, _, _, _, _, _, _, zN⟩ := blk_h6 bmN; obtain ⟨ao2, cp2, rfl, _, _⟩ := hu2.form; have HU2 := Lib.hid hu2; have HF2 := Lib.hid hF2; clear hu2 hF2))
      refine bodyPost_ret (v := .tuple #[.agg #[.string ⟨#[]⟩, .string ⟨#[]⟩, .string ⟨#[]⟩, .int .i64 0, .slice none 0 0, .slice none 0 0], .int .i64 we]) (by simp [results, Tryz.results68, go_sem, r0, r1, r2, r3, r4, r5]) rfl ?_
      exact ⟨_, _, by (rw [HR.out]; rfl), by (rw [HR.out]; exact .inl ⟨⟨_, _, rfl⟩, rfl⟩), by (rw [HR.out]; exact .inl ⟨⟨_, _, rfl⟩, rfl⟩), Fresh.nil _ _ _, Fresh.nil _ _ _, ((((((hBB.setCell (Nat.le_refl _) _).setCell (Nat.le_refl _) _).setCell (Nat.le_refl _) _).setCell (Nat.le_refl _) _).setCell (Nat.le_refl _) _).setCell (Nat.le_refl _) _)⟩
    · have HR := Lib.hid hR
      clear hR
      cases asked
      all_goals
        go_wp2_with (first | (go_at_call 122; ((with_reducible refine (HCT3.out _).mono ?_); rintro e w6 ⟨rfl, hD⟩); have hZ := hZ.trans (hD.below (B := w0.heap.size)); obtain ⟨bmR, bmN, hBB⟩ := HX.out _ hZ; obtain ⟨r0, r1, r2, r3, r4, r5, g0, g1, g2, g3, g4, g5, zR⟩ := blk_h6 bmR; obtain ⟨m0, m1, m2, m3, m4, m5, _, _, _, _, _, _, zN⟩ := blk_h6 bmN) | (go_at_call 127; ((with_reducible refine (HSP.out _).mono ?_); rintro e w7 ⟨v, rfl, hv, hC7⟩); have hZ := hZ.trans (hC7.mono hZ.size); obtain ⟨bmR, bmN, hBB⟩ := HX.out _ hZ; obtain ⟨r0, r1, r2, r3, r4, r5, g0, g1, g2, g3, g4, g5, zR⟩ := blk_h6 bmR; obtain ⟨m0, m1, m2, m3, m4, m5, _, _, _, _, _, _, zN⟩ := blk_h6 bmN; have HV := Lib.hid hv; obtain ⟨ao, cap, rfl, hm1, c1⟩ := hv.form; obtain ⟨b, off, rfl, hb1, hc1⟩ := c1 (by simp); have x0 := hc1 0 (by simp); rw [Nat.add_zero] at x0; have k1 : (0 : Int) < ((x :: xs).length : Int) := (by simp); clear hc1 c1 hv; unfold maxLen at hm1) | (go_at_call 128; ((with_reducible refine (HWH.out _).mono ?_); rintro e w8 ⟨rfl, hC8⟩); have hZ := hZ.trans (hC8.mono hZ.size); obtain ⟨bmR, bmN, hBB⟩ := HX.out _ hZ; obtain ⟨r0, r1, r2, r3, r4, r5, g0, g1, g2, g3, g4, g5, zR⟩ := blk_h6 bmR; obtain ⟨m0, m1, m2, m3, m4, m5, _, _, _, _, _, _, zN⟩ := blk_h6 bmN; have HV := Lib.hid (HV.out.below hC8 (Nat.le_refl _))) | (go_at_call 129; ((with_reducible refine (HRD1.out _ _ (by first | exact HV.out.tailB | exact HV.out.tailA (by first | assumption | omega))).mono ?_); rintro e w9 ⟨u1, rfl, hu1, hF1, hC9⟩); have hF1 := hF1.mono (show w.heap.size + 2 ≤ _ from HS2.out ▸ hZ.size); have hZ := hZ.trans (hC9.mono hZ.size); obtain ⟨bmR, bmN, hBB⟩ := HX.out _ hZ; obtain ⟨r0, r1, r2, r3, r4, r5, g0, g1, g2, g3, g4, g5, zR⟩ := blk_h6 bmR; obtain ⟨m0, m1, m2, m3, m4, m5, _, _, _, _, _, _, zN⟩ := blk_h6 bmN; obtain ⟨ao1, cp1, rfl, _, _⟩ := hu1.form; have HU1 := Lib.hid hu1; have HF1 := Lib.hid hF1; clear hu1 hF1) | (go_at_call 127; ((with_reducible refine (HSP2.out _).mono ?_); rintro e w10 ⟨v2, rfl, hv2, hC10⟩); have HU1 := Lib.hid (HU1.out.below hC10 (Nat.le_refl _)); have hZ := hZ.trans (hC10.mono hZ.size); obtain ⟨bmR, bmN, hBB⟩ := HX.out _ hZ; obtain ⟨r0, r1, r2, r3, r4, r5, g0, g1, g2, g3, g4, g5, zR⟩ := blk_h6 bmR; obtain ⟨m0, m1, m2, m3, m4, m5, _, _, _, _, _, _, zN⟩ := blk_h6 bmN) | (go_at_call 129; ((with_reducible refine (HRD2.out _ _ hv2).mono ?_); rintro e w11 ⟨u2, rfl, hu2, hF2, hC11⟩); have hF2 := hF2.mono (show w.heap.size + 2 ≤ _ from HS2.out ▸ hZ.size); have HU1 := Lib.hid (HU1.out.below hC11 (Nat.le_refl _)); have hZ := hZ.trans (hC11.mono hZ.size); obtain ⟨bmR, bmN, hBB⟩ := HX.out _ hZ; obtain ⟨r0, r1, r2, r3, r4, r5, g0, g1, g2, g3, g4, g5, zR⟩ := blk_h6 bmR; obtain ⟨m0, m1, m2, m3, m4, m5, _, _, _, _, _, _, zN⟩ := blk_h6 bmN; obtain ⟨ao2, cp2, rfl, _, _⟩ := hu2.form; have HU2 := Lib.hid hu2; have HF2 := Lib.hid hF2; clear hu2 hF2))
        all_goals
          refine bodyPost_ret (v := .tuple #[.agg #[.string ⟨#[]⟩, .string ⟨#[]⟩, .string ⟨#[]⟩, .int .i64 0, .slice none 0 0, .slice none 0 0], .int .i64 34]) (by simp [results, Tryz.results68, go_sem, r0, r1, r2, r3, r4, r5]) rfl ?_
          exact ⟨_, _, by (rw [HR.out]; rfl), by (rw [HR.out]; exact .inl ⟨⟨_, _, rfl⟩, rfl⟩), by (rw [HR.out]; exact .inl ⟨⟨_, _, rfl⟩, rfl⟩), Fresh.nil _ _ _, Fresh.nil _ _ _, ((((((hBB.setCell (Nat.le_refl _) _).setCell (Nat.le_refl _) _).setCell (Nat.le_refl _) _).setCell (Nat.le_refl _) _).setCell (Nat.le_refl _) _).setCell (Nat.le_refl _) _)⟩
    · have HR := Lib.hid hR
      clear hR
      go_wp2_with (first | (go_at_call 122; ((with_reducible refine (HCT3.out _).mono ?_); rintro e w6 ⟨rfl, hD⟩); have hZ := hZ.trans (hD.below (B := w0.heap.size)); obtain ⟨bmR, bmN, hBB⟩ := HX.out _ hZ; obtain ⟨r0, r1, r2, r3, r4, r5, g0, g1, g2, g3, g4, g5, zR⟩ := blk_h6 bmR; obtain ⟨m0, m1, m2, m3, m4, m5, _, _, _, _, _, _, zN⟩ := blk_h6 bmN) | (go_at_call 127; ((with_reducible refine (HSP.out _).mono ?_); rintro e w7 ⟨v, rfl, hv, hC7⟩); have hZ := hZ.trans (hC7.mono hZ.size); obtain ⟨bmR, bmN, hBB⟩ := HX.out _ hZ; obtain ⟨r0, r1, r2, r3, r4, r5, g0, g1, g2, g3, g4, g5, zR⟩ := blk_h6 bmR; obtain ⟨m0, m1, m2, m3, m4, m5, _, _, _, _, _, _, zN⟩ := blk_h6 bmN; have HV := Lib.hid hv; obtain ⟨ao, cap, rfl, hm1, c1⟩ := hv.form; obtain ⟨b, off, rfl, hb1, hc1⟩ := c1 (by simp); have x0 := hc1 0 (by simp); rw [Nat.add_zero] at x0; have k1 : (0 : Int) < ((x :: xs).length : Int) := (by simp); clear hc1 c1 hv; unfold maxLen at hm1) | (go_at_call 128; ((with_reducible refine (HWH.out _).mono ?_); rintro e w8 ⟨rfl, hC8⟩); have hZ := hZ.trans (hC8.mono hZ.size); obtain ⟨bmR, bmN, hBB⟩ := HX.out _ hZ; obtain ⟨r0, r1, r2, r3, r4, r5, g0, g1, g2, g3, g4, g5, zR⟩ := blk_h6 bmR; obtain ⟨m0, m1, m2, m3, m4, m5, _, _, _, _, _, _, zN⟩ := blk_h6 bmN; have HV := Lib.hid (HV.out.below hC8 (Nat.le_refl _))) | (go_at_call 129; ((with_reducible refine (HRD1.out _ _ (by first | exact HV.out.tailB | exact HV.out.tailA (by first | assumption | omega))).mono ?_); rintro e w9 ⟨u1, rfl, hu1, hF1, hC9⟩); have hF1 := hF1.mono (show w.heap.size + 2 ≤ _ from HS2.out ▸ hZ.size); have hZ := hZ.trans (hC9.mono hZ.size); obtain ⟨bmR, bmN, hBB⟩ := HX.out _ hZ; obtain ⟨r0, r1, r2, r3, r4, r5, g0, g1, g2, g3, g4, g5, zR⟩ := blk_h6 bmR; obtain ⟨m0, m1, m2, m3, m4, m5, _, _, _, _, _, _, zN⟩ := blk_h6 bmN; obtain ⟨ao1, cp1, rfl, _, _⟩ := hu1.form; have HU1 := Lib.hid hu1; have HF1 := Lib.hid hF1; clear hu1 hF1) | (go_at_call 127; ((with_reducible refine (HSP2.out _).mono ?_); rintro e w10 ⟨v2, rfl, hv2, hC10⟩); have HU1 := Lib.hid (HU1.out.below hC10 (Nat.le_refl _)); have hZ := hZ.trans (hC10.mono hZ.size); obtain ⟨bmR, bmN, hBB⟩ := HX.out _ hZ; obtain ⟨r0, r1, r2, r3, r4, r5, g0, g1, g2, g3, g4, g5, zR⟩ := blk_h6 bmR; obtain ⟨m0, m1, m2, m3, m4, m5, _, _, _, _, _, _, zN⟩ := blk_h6 bmN) | (go_at_call 129; ((with_reducible refine (HRD2.out _ _ hv2).mono ?_); rintro e w11 ⟨u2, rfl, hu2, hF2, hC11⟩); have hF2 := hF2.mono (show w.heap.size + 2 ≤ _ from HS2.out ▸ hZ.size); have HU1 := Lib.hid (HU1.out.below hC11 (Nat.le_refl _)); have hZ := hZ.trans (hC11.mono hZ.size); obtain ⟨bmR, bmN, hBB⟩ := HX.out _ hZ; obtain ⟨r0, r1, r2, r3, r4, r5, g0, g1, g2, g3, g4, g5, zR⟩ := blk_h6 bmR; obtain ⟨m0, m1, m2, m3, m4, m5, _, _, _, _, _, _, zN⟩ := blk_h6 bmN; obtain ⟨ao2, cp2, rfl, _, _⟩ := hu2.form; have HU2 := Lib.hid hu2; have HF2 := Lib.hid hF2; clear hu2 hF2))
      all_goals
        refine bodyPost_ret (v := .tuple #[.agg #[.string ⟨#[]⟩, .string ⟨#[]⟩, .string ⟨#[]⟩, .int .i64 0, .slice none 0 0, .slice none 0 0], .int .i64 34]) (by simp [results, Tryz.results68, go_sem, r0, r1, r2, r3, r4, r5]) rfl ?_
        exact ⟨_, _, by (rw [HR.out]; rfl), by (rw [HR.out]; exact .inl ⟨⟨_, _, rfl⟩, rfl⟩), by (rw [HR.out]; exact .inl ⟨⟨_, _, rfl⟩, rfl⟩), Fresh.nil _ _ _, Fresh.nil _ _ _, ((((((hBB.setCell (Nat.le_refl _) _).setCell (Nat.le_refl _) _).setCell (Nat.le_refl _) _).setCell (Nat.le_refl _) _).setCell (Nat.le_refl _) _).setCell (Nat.le_refl _) _)⟩
    · have HSV := Lib.hid (show sv sc = .string SC by rw [← HSCu.out]; simp [sv])
      have HUV := Lib.hid (show sv [] = .string ⟨#[]⟩ by first | rfl | (have h := (show us (⟨#[]⟩ : ByteArray) = [] from rfl); rw [← h]; simp [sv]))
      have HHV := Lib.hid (show sv hl = .string HH by rw [← HHHu.out]; simp [sv])
      have HU0 := Lib.hid (fun (wx : World) => (show RPrms wx (.slice none 0 0) [] from .inl ⟨⟨_, _, rfl⟩, rfl⟩))
      obtain ⟨w1', w2', w3'⟩ := HWO.out rfl
      have hH64 := (host_low _ w1').2.2
      rw [← HHHl.out] at hH64
      have HCK := Lib.hid (fun wx u1 u2 h1 h2 => checkUR_c SC ⟨#[]⟩ HH p u1 u2 PL [] hSCl (by omega) wx h1 h2 HPB1.out (fun p hp => by cases hp))
      rw [HSCu.out, (show us (⟨#[]⟩ : ByteArray) = [] from rfl), HHHu.out] at HCK
      obtain ⟨C, hC⟩ : ∃ C, C = checkU ⟨sc, [], hl, p, PL, []⟩ := ⟨_, rfl⟩
      unfold endU at hR
      rw [← hC] at HCK hR
      clear hC w1' w2' w3' hH64
      go_upto_region 26 with (first | (go_at_call 122; ((with_reducible refine (HCT3.out _).mono ?_); rintro e w6 ⟨rfl, hD⟩); have hZ := hZ.trans (hD.below (B := w0.heap.size)); obtain ⟨bmR, bmN, hBB⟩ := HX.out _ hZ; obtain ⟨r0, r1, r2, r3, r4, r5, g0, g1, g2, g3, g4, g5, zR⟩ := blk_h6 bmR; obtain ⟨m0, m1, m2, m3, m4, m5, _, _, _, _, _, _, zN⟩ := blk_h6 bmN) | (go_at_call 127; ((with_reducible refine (HSP.out _).mono ?_); rintro e w7 ⟨v, rfl, hv, hC7⟩); have hZ := hZ.trans (hC7.mono hZ.size); obtain ⟨bmR, bmN, hBB⟩ := HX.out _ hZ; obtain ⟨r0, r1, r2, r3, r4, r5, g0, g1, g2, g3, g4, g5, zR⟩ := blk_h6 bmR; obtain ⟨m0, m1, m2, m3, m4, m5, _, _, _, _, _, _, zN⟩ := blk_h6 bmN; have HV := Lib.hid hv; obtain ⟨ao, cap, rfl, hm1, c1⟩ := hv.form; obtain ⟨b, off, rfl, hb1, hc1⟩ := c1 (by simp); have x0 := hc1 0 (by simp); rw [Nat.add_zero] at x0; have k1 : (0 : Int) < ((x :: xs).length : Int) := (by simp); clear hc1 c1 hv; unfold maxLen at hm1) | (go_at_call 128; ((with_reducible refine (HWH.out _).mono ?_); rintro e w8 ⟨rfl, hC8⟩); have hZ := hZ.trans (hC8.mono hZ.size); obtain ⟨bmR, bmN, hBB⟩ := HX.out _ hZ; obtain ⟨r0, r1, r2, r3, r4, r5, g0, g1, g2, g3, g4, g5, zR⟩ := blk_h6 bmR; obtain ⟨m0, m1, m2, m3, m4, m5, _, _, _, _, _, _, zN⟩ := blk_h6 bmN; have HV := Lib.hid (HV.out.below hC8 (Nat.le_refl _))) | (go_at_call 129; ((with_reducible refine (HRD1.out _ _ (by first | exact HV.out.tailB | exact HV.out.tailA (by first | assumption | omega))).mono ?_); rintro e w9 ⟨u1, rfl, hu1, hF1, hC9⟩); have hF1 := hF1.mono (show w.heap.size + 2 ≤ _ from HS2.out ▸ hZ.size); have hZ := hZ.trans (hC9.mono hZ.size); obtain ⟨bmR, bmN, hBB⟩ := HX.out _ hZ; obtain ⟨r0, r1, r2, r3, r4, r5, g0, g1, g2, g3, g4, g5, zR⟩ := blk_h6 bmR; obtain ⟨m0, m1, m2, m3, m4, m5, _, _, _, _, _, _, zN⟩ := blk_h6 bmN; obtain ⟨ao1, cp1, rfl, _, _⟩ := hu1.form; have HU1 := Lib.hid hu1; have HF1 := Lib.hid hF1; clear hu1 hF1) | (go_at_call 127; ((with_reducible refine (HSP2.out _).mono ?_); rintro e w10 ⟨v2, rfl, hv2, hC10⟩); have HU1 := Lib.hid (HU1.out.below hC10 (Nat.le_refl _)); have hZ := hZ.trans (hC10.mono hZ.size); obtain ⟨bmR, bmN, hBB⟩ := HX.out _ hZ; obtain ⟨r0, r1, r2, r3, r4, r5, g0, g1, g2, g3, g4, g5, zR⟩ := blk_h6 bmR; obtain ⟨m0, m1, m2, m3, m4, m5, _, _, _, _, _, _, zN⟩ := blk_h6 bmN) | (go_at_call 129; ((with_reducible refine (HRD2.out _ _ hv2).mono ?_); rintro e w11 ⟨u2, rfl, hu2, hF2, hC11⟩); have hF2 := hF2.mono (show w.heap.size + 2 ≤ _ from HS2.out ▸ hZ.size); have HU1 := Lib.hid (HU1.out.below hC11 (Nat.le_refl _)); have hZ := hZ.trans (hC11.mono hZ.size); obtain ⟨bmR, bmN, hBB⟩ := HX.out _ hZ; obtain ⟨r0, r1, r2, r3, r4, r5, g0, g1, g2, g3, g4, g5, zR⟩ := blk_h6 bmR; obtain ⟨m0, m1, m2, m3, m4, m5, _, _, _, _, _, _, zN⟩ := blk_h6 bmN; obtain ⟨ao2, cp2, rfl, _, _⟩ := hu2.form; have HU2 := Lib.hid hu2; have HF2 := Lib.hid hF2; clear hu2 hF2))
      all_goals
        have hA := hZ.alloc hZ.size (.cells #[.string SC, .string ⟨#[]⟩, .string HH, .int .i64 p, .slice ao1 PL.length cp1, (.slice none 0 0)] 24)
        have bx := Blk.new w9 24 #[.string SC, .string ⟨#[]⟩, .string HH, .int .i64 p, .slice ao1 PL.length cp1, (.slice none 0 0)]
        have ha1 := HU1.out.below ((Below.refl w9.heap.size w9).alloc (Nat.le_refl _) (.cells #[.string SC, .string ⟨#[]⟩, .string HH, .int .i64 p, .slice ao1 PL.length cp1, (.slice none 0 0)] 24)) (Nat.le_refl _)
        have ha2 := (HU0.out w9).below ((Below.refl w9.heap.size w9).alloc (Nat.le_refl _) (.cells #[.string SC, .string ⟨#[]⟩, .string HH, .int .i64 p, .slice ao1 PL.length cp1, (.slice none 0 0)] 24)) (Nat.le_refl _)
        clear r0 r1 r2 r3 r4 r5 g0 g1 g2 g3 g4 g5 m0 m1 m2 m3 m4 m5
        obtain ⟨wu, hwu⟩ : ∃ x, x = w9.alloc (.cells #[.string SC, .string ⟨#[]⟩, .string HH, .int .i64 p, .slice ao1 PL.length cp1, (.slice none 0 0)] 24) := ⟨_, rfl⟩
        rw [← hwu] at hA bx ha1 ha2
        have HWU := Lib.hid hwu
        clear hwu
        have HA1 := Lib.hid ha1
        have HA2 := Lib.hid ha2
        clear ha1 ha2
        have zU : w9.heap.size < wu.heap.size := bx.lt
        have HZL := Lib.hid (hZ.size : w0.heap.size ≤ w9.heap.size)
        have hZ := hA
        obtain ⟨bmR, bmN, hBB⟩ := HX.out _ hZ
        obtain ⟨r0, r1, r2, r3, r4, r5, g0, g1, g2, g3, g4, g5, zR⟩ := blk_h6 bmR
        obtain ⟨m0, m1, m2, m3, m4, m5, _, _, _, _, _, _, zN⟩ := blk_h6 bmN
        obtain ⟨y0, y1, y2, y3, y4, y5⟩ := blk_f6 bx
        by_cases hc0 : C = 0
        · subst hc0
          rw [if_pos rfl] at hR
          have HR := Lib.hid hR
          clear hR
          go_wp2_with (go_at_call 119; (try rw [← HWU.out]); ((with_reducible refine (HCK.out _ _ _ HA1.out HA2.out).mono ?_); rintro e w12 ⟨rfl, hC12⟩); have bx := bx.call hC12; have HA1 := Lib.hid (HA1.out.below hC12 (Nat.le_refl _)); have HA2 := Lib.hid (HA2.out.below hC12 (Nat.le_refl _)); have zU := Nat.lt_of_lt_of_le zU hC12.size; have hZ := hZ.trans (hC12.mono hZ.size); obtain ⟨bmR, bmN, hBB⟩ := HX.out _ hZ; obtain ⟨r0, r1, r2, r3, r4, r5, g0, g1, g2, g3, g4, g5, zR⟩ := blk_h6 bmR; obtain ⟨m0, m1, m2, m3, m4, m5, _, _, _, _, _, _, zN⟩ := blk_h6 bmN; obtain ⟨y0, y1, y2, y3, y4, y5⟩ := blk_f6 bx)
          refine bodyPost_ret (v := .tuple #[.agg #[.string SC, .string ⟨#[]⟩, .string HH, .int .i64 p, .slice ao1 PL.length cp1, (.slice none 0 0)], .int .i64 0]) (by simp [results, Tryz.results68, go_sem, r0, r1, r2, r3, r4, r5]) rfl ?_
          exact ⟨_, _, by (rw [HR.out]; show _ = Ending.returned (.tuple #[.agg #[sv sc, sv [], sv hl, .int .i64 p, _, _], .int .i64 0]); rw [HSV.out, HUV.out, HHV.out]), (by rw [HR.out]; exact (RPrms.set (RPrms.set (RPrms.set (RPrms.set (RPrms.set (RPrms.set HA1.out HF1.out (p := ⟨w.heap.size, 0, none⟩) (show w.heap.size < w.heap.size + 2 by omega) _) HF1.out (p := ⟨w.heap.size, 1, none⟩) (show w.heap.size < w.heap.size + 2 by omega) _) HF1.out (p := ⟨w.heap.size, 2, none⟩) (show w.heap.size < w.heap.size + 2 by omega) _) HF1.out (p := ⟨w.heap.size, 3, none⟩) (show w.heap.size < w.heap.size + 2 by omega) _) HF1.out (p := ⟨w.heap.size, 4, none⟩) (show w.heap.size < w.heap.size + 2 by omega) _) HF1.out (p := ⟨w.heap.size, 5, none⟩) (show w.heap.size < w.heap.size + 2 by omega) _)), (by rw [HR.out]; exact .inl ⟨⟨_, _, rfl⟩, rfl⟩), HF1.out.mono (by omega), Fresh.nil _ _ _, ((((((hBB.setCell (Nat.le_refl _) _).setCell (Nat.le_refl _) _).setCell (Nat.le_refl _) _).setCell (Nat.le_refl _) _).setCell (Nat.le_refl _) _).setCell (Nat.le_refl _) _)⟩
        · rw [if_neg hc0] at hR
          have HR := Lib.hid hR
          have t9 : (C != 0) = true := by simpa using hc0
          clear hR hc0
          go_wp2_with (go_at_call 119; (try rw [← HWU.out]); ((with_reducible refine (HCK.out _ _ _ HA1.out HA2.out).mono ?_); rintro e w12 ⟨rfl, hC12⟩); have bx := bx.call hC12; have HA1 := Lib.hid (HA1.out.below hC12 (Nat.le_refl _)); have HA2 := Lib.hid (HA2.out.below hC12 (Nat.le_refl _)); have zU := Nat.lt_of_lt_of_le zU hC12.size; have hZ := hZ.trans (hC12.mono hZ.size); obtain ⟨bmR, bmN, hBB⟩ := HX.out _ hZ; obtain ⟨r0, r1, r2, r3, r4, r5, g0, g1, g2, g3, g4, g5, zR⟩ := blk_h6 bmR; obtain ⟨m0, m1, m2, m3, m4, m5, _, _, _, _, _, _, zN⟩ := blk_h6 bmN; obtain ⟨y0, y1, y2, y3, y4, y5⟩ := blk_f6 bx)
          have zW : w.heap.size + 2 ≤ w9.heap.size := by have := HZL.out; have h2 := HS2.out; omega
          have KC := Lib.hid (fun (wx w' : World) (h : wx.cell? ⟨w.heap.size + 1, 0, none⟩ = some (.string ⟨#[]⟩) ∧ wx.cell? ⟨w.heap.size + 1, 1, none⟩ = some (.string ⟨#[]⟩) ∧ wx.cell? ⟨w.heap.size + 1, 2, none⟩ = some (.string ⟨#[]⟩) ∧ wx.cell? ⟨w.heap.size + 1, 3, none⟩ = some (.int .i64 0) ∧ wx.cell? ⟨w.heap.size + 1, 4, none⟩ = some (.slice none 0 0) ∧ wx.cell? ⟨w.heap.size + 1, 5, none⟩ = some (.slice none 0 0) ∧ wx.cell? ⟨w9.heap.size, 0, none⟩ = some (.string SC) ∧ wx.cell? ⟨w9.heap.size, 1, none⟩ = some (.string ⟨#[]⟩) ∧ wx.cell? ⟨w9.heap.size, 2, none⟩ = some (.string HH) ∧ wx.cell? ⟨w9.heap.size, 3, none⟩ = some (.int .i64 p) ∧ wx.cell? ⟨w9.heap.size, 4, none⟩ = some (.slice ao1 PL.length cp1) ∧ wx.cell? ⟨w9.heap.size, 5, none⟩ = some (.slice none 0 0) ∧ wx.cell? ⟨w.heap.size, 0, none⟩ = some (.string ⟨#[]⟩) ∧ wx.cell? ⟨w.heap.size, 1, none⟩ = some (.string ⟨#[]⟩) ∧ wx.cell? ⟨w.heap.size, 2, none⟩ = some (.string ⟨#[]⟩) ∧ wx.cell? ⟨w.heap.size, 3, none⟩ = some (.int .i64 0) ∧ wx.cell? ⟨w.heap.size, 4, none⟩ = some (.slice none 0 0) ∧ wx.cell? ⟨w.heap.size, 5, none⟩ = some (.slice none 0 0) ∧ wx.frozen? ⟨w.heap.size, 0, none⟩ = false ∧ wx.frozen? ⟨w.heap.size, 1, none⟩ = false ∧ wx.frozen? ⟨w.heap.size, 2, none⟩ = false ∧ wx.frozen? ⟨w.heap.size, 3, none⟩ = false ∧ wx.frozen? ⟨w.heap.size, 4, none⟩ = false ∧ wx.frozen? ⟨w.heap.size, 5, none⟩ = false ∧ Blk wx w.heap.size 24 #[.string ⟨#[]⟩, .string ⟨#[]⟩, .string ⟨#[]⟩, .int .i64 0, .slice none 0 0, .slice none 0 0] ∧ RPrms wx (.slice ao1 PL.length cp1) PL ∧ RPrms wx (.slice none 0 0) [] ∧ Below w.heap.size w wx) (hC : Below wx.heap.size wx w') => (show w'.cell? ⟨w.heap.size + 1, 0, none⟩ = some (.string ⟨#[]⟩) ∧ w'.cell? ⟨w.heap.size + 1, 1, none⟩ = some (.string ⟨#[]⟩) ∧ w'.cell? ⟨w.heap.size + 1, 2, none⟩ = some (.string ⟨#[]⟩) ∧ w'.cell? ⟨w.heap.size + 1, 3, none⟩ = some (.int .i64 0) ∧ w'.cell? ⟨w.heap.size + 1, 4, none⟩ = some (.slice none 0 0) ∧ w'.cell? ⟨w.heap.size + 1, 5, none⟩ = some (.slice none 0 0) ∧ w'.cell? ⟨w9.heap.size, 0, none⟩ = some (.string SC) ∧ w'.cell? ⟨w9.heap.size, 1, none⟩ = some (.string ⟨#[]⟩) ∧ w'.cell? ⟨w9.heap.size, 2, none⟩ = some (.string HH) ∧ w'.cell? ⟨w9.heap.size, 3, none⟩ = some (.int .i64 p) ∧ w'.cell? ⟨w9.heap.size, 4, none⟩ = some (.slice ao1 PL.length cp1) ∧ w'.cell? ⟨w9.heap.size, 5, none⟩ = some (.slice none 0 0) ∧ w'.cell? ⟨w.heap.size, 0, none⟩ = some (.string ⟨#[]⟩) ∧ w'.cell? ⟨w.heap.size, 1, none⟩ = some (.string ⟨#[]⟩) ∧ w'.cell? ⟨w.heap.size, 2, none⟩ = some (.string ⟨#[]⟩) ∧ w'.cell? ⟨w.heap.size, 3, none⟩ = some (.int .i64 0) ∧ w'.cell? ⟨w.heap.size, 4, none⟩ = some (.slice none 0 0) ∧ w'.cell? ⟨w.heap.size, 5, none⟩ = some (.slice none 0 0) ∧ w'.frozen? ⟨w.heap.size, 0, none⟩ = false ∧ w'.frozen? ⟨w.heap.size, 1, none⟩ = false ∧ w'.frozen? ⟨w.heap.size, 2, none⟩ = false ∧ w'.frozen? ⟨w.heap.size, 3, none⟩ = false ∧ w'.frozen? ⟨w.heap.size, 4, none⟩ = false ∧ w'.frozen? ⟨w.heap.size, 5, none⟩ = false ∧ Blk w' w.heap.size 24 #[.string ⟨#[]⟩, .string ⟨#[]⟩, .string ⟨#[]⟩, .int .i64 0, .slice none 0 0, .slice none 0 0] ∧ RPrms w' (.slice ao1 PL.length cp1) PL ∧ RPrms w' (.slice none 0 0) [] ∧ Below w.heap.size w w' from by
            obtain ⟨h0, h1, h2, h3, h4, h5, h6, h7, h8, h9, h10, h11, _, _, _, _, _, _, _, _, _, _, _, _, hb, hr1, hr2, hB⟩ := h
            have nb := hb.call hC
            obtain ⟨b0, b1, b2, b3, b4, b5, b6, b7, b8, b9, b10, b11, _⟩ := blk_h6 nb
            exact ⟨(hC.cell (World.block_lt_of_cell? wx _ h0)).trans h0, (hC.cell (World.block_lt_of_cell? wx _ h1)).trans h1, (hC.cell (World.block_lt_of_cell? wx _ h2)).trans h2, (hC.cell (World.block_lt_of_cell? wx _ h3)).trans h3, (hC.cell (World.block_lt_of_cell? wx _ h4)).trans h4, (hC.cell (World.block_lt_of_cell? wx _ h5)).trans h5, (hC.cell (World.block_lt_of_cell? wx _ h6)).trans h6, (hC.cell (World.block_lt_of_cell? wx _ h7)).trans h7, (hC.cell (World.block_lt_of_cell? wx _ h8)).trans h8, (hC.cell (World.block_lt_of_cell? wx _ h9)).trans h9, (hC.cell (World.block_lt_of_cell? wx _ h10)).trans h10, (hC.cell (World.block_lt_of_cell? wx _ h11)).trans h11, b0, b1, b2, b3, b4, b5, b6, b7, b8, b9, b10, b11, hb.call hC, hr1.below hC (Nat.le_refl _), hr2.below hC (Nat.le_refl _), hB.trans (hC.mono hB.size)⟩))
          have K1 := Lib.hid (fun (wx : World) (h : wx.cell? ⟨w.heap.size + 1, 0, none⟩ = some (.string ⟨#[]⟩) ∧ wx.cell? ⟨w.heap.size + 1, 1, none⟩ = some (.string ⟨#[]⟩) ∧ wx.cell? ⟨w.heap.size + 1, 2, none⟩ = some (.string ⟨#[]⟩) ∧ wx.cell? ⟨w.heap.size + 1, 3, none⟩ = some (.int .i64 0) ∧ wx.cell? ⟨w.heap.size + 1, 4, none⟩ = some (.slice none 0 0) ∧ wx.cell? ⟨w.heap.size + 1, 5, none⟩ = some (.slice none 0 0) ∧ wx.cell? ⟨w9.heap.size, 0, none⟩ = some (.string SC) ∧ wx.cell? ⟨w9.heap.size, 1, none⟩ = some (.string ⟨#[]⟩) ∧ wx.cell? ⟨w9.heap.size, 2, none⟩ = some (.string HH) ∧ wx.cell? ⟨w9.heap.size, 3, none⟩ = some (.int .i64 p) ∧ wx.cell? ⟨w9.heap.size, 4, none⟩ = some (.slice ao1 PL.length cp1) ∧ wx.cell? ⟨w9.heap.size, 5, none⟩ = some (.slice none 0 0) ∧ wx.cell? ⟨w.heap.size, 0, none⟩ = some (.string ⟨#[]⟩) ∧ wx.cell? ⟨w.heap.size, 1, none⟩ = some (.string ⟨#[]⟩) ∧ wx.cell? ⟨w.heap.size, 2, none⟩ = some (.string ⟨#[]⟩) ∧ wx.cell? ⟨w.heap.size, 3, none⟩ = some (.int .i64 0) ∧ wx.cell? ⟨w.heap.size, 4, none⟩ = some (.slice none 0 0) ∧ wx.cell? ⟨w.heap.size, 5, none⟩ = some (.slice none 0 0) ∧ wx.frozen? ⟨w.heap.size, 0, none⟩ = false ∧ wx.frozen? ⟨w.heap.size, 1, none⟩ = false ∧ wx.frozen? ⟨w.heap.size, 2, none⟩ = false ∧ wx.frozen? ⟨w.heap.size, 3, none⟩ = false ∧ wx.frozen? ⟨w.heap.size, 4, none⟩ = false ∧ wx.frozen? ⟨w.heap.size, 5, none⟩ = false ∧ Blk wx w.heap.size 24 #[.string ⟨#[]⟩, .string ⟨#[]⟩, .string ⟨#[]⟩, .int .i64 0, .slice none 0 0, .slice none 0 0] ∧ RPrms wx (.slice ao1 PL.length cp1) PL ∧ RPrms wx (.slice none 0 0) [] ∧ Below w.heap.size w wx) => (show RPrms wx (.slice ao1 PL.length cp1) PL from h.2.2.2.2.2.2.2.2.2.2.2.2.2.2.2.2.2.2.2.2.2.2.2.2.2.1))
          have K2 := Lib.hid (fun (wx : World) (h : wx.cell? ⟨w.heap.size + 1, 0, none⟩ = some (.string ⟨#[]⟩) ∧ wx.cell? ⟨w.heap.size + 1, 1, none⟩ = some (.string ⟨#[]⟩) ∧ wx.cell? ⟨w.heap.size + 1, 2, none⟩ = some (.string ⟨#[]⟩) ∧ wx.cell? ⟨w.heap.size + 1, 3, none⟩ = some (.int .i64 0) ∧ wx.cell? ⟨w.heap.size + 1, 4, none⟩ = some (.slice none 0 0) ∧ wx.cell? ⟨w.heap.size + 1, 5, none⟩ = some (.slice none 0 0) ∧ wx.cell? ⟨w9.heap.size, 0, none⟩ = some (.string SC) ∧ wx.cell? ⟨w9.heap.size, 1, none⟩ = some (.string ⟨#[]⟩) ∧ wx.cell? ⟨w9.heap.size, 2, none⟩ = some (.string HH) ∧ wx.cell? ⟨w9.heap.size, 3, none⟩ = some (.int .i64 p) ∧ wx.cell? ⟨w9.heap.size, 4, none⟩ = some (.slice ao1 PL.length cp1) ∧ wx.cell? ⟨w9.heap.size, 5, none⟩ = some (.slice none 0 0) ∧ wx.cell? ⟨w.heap.size, 0, none⟩ = some (.string ⟨#[]⟩) ∧ wx.cell? ⟨w.heap.size, 1, none⟩ = some (.string ⟨#[]⟩) ∧ wx.cell? ⟨w.heap.size, 2, none⟩ = some (.string ⟨#[]⟩) ∧ wx.cell? ⟨w.heap.size, 3, none⟩ = some (.int .i64 0) ∧ wx.cell? ⟨w.heap.size, 4, none⟩ = some (.slice none 0 0) ∧ wx.cell? ⟨w.heap.size, 5, none⟩ = some (.slice none 0 0) ∧ wx.frozen? ⟨w.heap.size, 0, none⟩ = false ∧ wx.frozen? ⟨w.heap.size, 1, none⟩ = false ∧ wx.frozen? ⟨w.heap.size, 2, none⟩ = false ∧ wx.frozen? ⟨w.heap.size, 3, none⟩ = false ∧ wx.frozen? ⟨w.heap.size, 4, none⟩ = false ∧ wx.frozen? ⟨w.heap.size, 5, none⟩ = false ∧ Blk wx w.heap.size 24 #[.string ⟨#[]⟩, .string ⟨#[]⟩, .string ⟨#[]⟩, .int .i64 0, .slice none 0 0, .slice none 0 0] ∧ RPrms wx (.slice ao1 PL.length cp1) PL ∧ RPrms wx (.slice none 0 0) [] ∧ Below w.heap.size w wx) => (show RPrms wx (.slice none 0 0) [] from h.2.2.2.2.2.2.2.2.2.2.2.2.2.2.2.2.2.2.2.2.2.2.2.2.2.2.1))
          have hS0 := Lib.hid (show w12.cell? ⟨w.heap.size + 1, 0, none⟩ = some (.string ⟨#[]⟩) ∧ w12.cell? ⟨w.heap.size + 1, 1, none⟩ = some (.string ⟨#[]⟩) ∧ w12.cell? ⟨w.heap.size + 1, 2, none⟩ = some (.string ⟨#[]⟩) ∧ w12.cell? ⟨w.heap.size + 1, 3, none⟩ = some (.int .i64 0) ∧ w12.cell? ⟨w.heap.size + 1, 4, none⟩ = some (.slice none 0 0) ∧ w12.cell? ⟨w.heap.size + 1, 5, none⟩ = some (.slice none 0 0) ∧ w12.cell? ⟨w9.heap.size, 0, none⟩ = some (.string SC) ∧ w12.cell? ⟨w9.heap.size, 1, none⟩ = some (.string ⟨#[]⟩) ∧ w12.cell? ⟨w9.heap.size, 2, none⟩ = some (.string HH) ∧ w12.cell? ⟨w9.heap.size, 3, none⟩ = some (.int .i64 p) ∧ w12.cell? ⟨w9.heap.size, 4, none⟩ = some (.slice ao1 PL.length cp1) ∧ w12.cell? ⟨w9.heap.size, 5, none⟩ = some (.slice none 0 0) ∧ w12.cell? ⟨w.heap.size, 0, none⟩ = some (.string ⟨#[]⟩) ∧ w12.cell? ⟨w.heap.size, 1, none⟩ = some (.string ⟨#[]⟩) ∧ w12.cell? ⟨w.heap.size, 2, none⟩ = some (.string ⟨#[]⟩) ∧ w12.cell? ⟨w.heap.size, 3, none⟩ = some (.int .i64 0) ∧ w12.cell? ⟨w.heap.size, 4, none⟩ = some (.slice none 0 0) ∧ w12.cell? ⟨w.heap.size, 5, none⟩ = some (.slice none 0 0) ∧ w12.frozen? ⟨w.heap.size, 0, none⟩ = false ∧ w12.frozen? ⟨w.heap.size, 1, none⟩ = false ∧ w12.frozen? ⟨w.heap.size, 2, none⟩ = false ∧ w12.frozen? ⟨w.heap.size, 3, none⟩ = false ∧ w12.frozen? ⟨w.heap.size, 4, none⟩ = false ∧ w12.frozen? ⟨w.heap.size, 5, none⟩ = false ∧ Blk w12 w.heap.size 24 #[.string ⟨#[]⟩, .string ⟨#[]⟩, .string ⟨#[]⟩, .int .i64 0, .slice none 0 0, .slice none 0 0] ∧ RPrms w12 (.slice ao1 PL.length cp1) PL ∧ RPrms w12 (.slice none 0 0) [] ∧ Below w.heap.size w w12 from ⟨m0, m1, m2, m3, m4, m5, y0, y1, y2, y3, y4, y5, r0, r1, r2, r3, r4, r5, g0, g1, g2, g3, g4, g5, bmR, HA1.out, HA2.out, hBB⟩)
          clear m0 m1 m2 m3 m4 m5 y0 y1 y2 y3 y4 y5 bmR bmN bx hBB hZ r0 r1 r2 r3 r4 r5 g0 g1 g2 g3 g4 g5
          skip
          have hS := Lib.hid (KC.out _ _ hS0.out ((Below.refl _ _).drew))
          obtain ⟨m0, m1, m2, m3, m4, m5, y0, y1, y2, y3, y4, y5, r0, r1, r2, r3, r4, r5, g0, g1, g2, g3, g4, g5, _, _, _, hBB⟩ := hS0.out
          clear hS0
          refine wp_region_any (by kernel_rfl) ?_
          try (change wpAny _ _ _ _ _ _ _ (World.drew _))
          refine wpAny_ready (rs := [0, 1]) (by kernel_rfl) (by simp) ?_
          refine AllReady.cons rfl (fun K hK => ?_) ?_
          ·
            go_simp
            refine hK _ _ ?_; clear hK K
            refine wpAny_ready (rs := [1]) (by kernel_rfl) (by simp) ?_
            refine AllReady.cons rfl (fun K hK => ?_) ?_
            ·
              go_simp
              refine hK _ _ ?_; clear hK K
              refine wpAny_ready (rs := [2]) (by kernel_rfl) (by simp) ?_
              refine AllReady.cons rfl (fun K hK => ?_) ?_
              ·
                refine step_wB1 rfl rfl Tryz.func119 nmCkR bdCkR rfl (HCK.out _ _ _ (K1.out _ hS.out) (K2.out _ hS.out)) ?_
                intro w13 hC13
                replace hS := Lib.hid (KC.out _ _ hS.out hC13)
                clear m0 m1 m2 m3 m4 m5 y0 y1 y2 y3 y4 y5 r0 r1 r2 r3 r4 r5 g0 g1 g2 g3 g4 g5  hBB
                obtain ⟨m0, m1, m2, m3, m4, m5, y0, y1, y2, y3, y4, y5, r0, r1, r2, r3, r4, r5, g0, g1, g2, g3, g4, g5, _, _, _, hBB⟩ := hS.out
                try go_simp
                refine hK _ _ ?_; clear hK K
                refine wpAny_ready (rs := [3]) (by kernel_rfl) (by simp) ?_
                refine AllReady.cons rfl (fun K hK => ?_) ?_
                ·
                  go_simp
                  refine hK _ _ ?_; clear hK K
                  first | (refine wpAny_take (i := 4) (v := undef) rfl (by kernel_rfl) (by kernel_rfl) (by kernel_rfl) (fun _ _ _ h => h) (Or.inr ⟨by rfl, rfl⟩) ?_) | (refine wpAny_take (i := 4) (v := ?_) rfl (by kernel_rfl) (by kernel_rfl) (by kernel_rfl) (fun _ _ _ h => h) ?_ ?_; rotate_left; focus (refine Or.inl ⟨by rfl, ?_⟩; intro _; go_simp; first | done | with_reducible rfl | (rw [if_neg (by omega)]; done) | (rw [if_neg (by omega)]; with_reducible rfl)))
                  try go_simp
                  refine wpAny_done (by kernel_rfl) ?_ _
                  go_wp2
                  refine bodyPost_ret (v := .tuple #[.agg #[.string ⟨#[]⟩, .string ⟨#[]⟩, .string ⟨#[]⟩, .int .i64 0, .slice none 0 0, .slice none 0 0], .int .i64 C]) (by simp [results, Tryz.results68, go_sem, r0, r1, r2, r3, r4, r5]) rfl ?_
                  exact ⟨_, _, by (rw [HR.out]; rfl), by (rw [HR.out]; exact .inl ⟨⟨_, _, rfl⟩, rfl⟩), by (rw [HR.out]; exact .inl ⟨⟨_, _, rfl⟩, rfl⟩), Fresh.nil _ _ _, Fresh.nil _ _ _, ((((((hBB.setCell (Nat.le_refl _) _).setCell (Nat.le_refl _) _).setCell (Nat.le_refl _) _).setCell (Nat.le_refl _) _).setCell (Nat.le_refl _) _).setCell (Nat.le_refl _) _)⟩
                exact AllReady.nil
              exact AllReady.nil
            exact AllReady.nil
          refine AllReady.cons rfl (fun K hK => ?_) ?_
          ·
            go_simp
            refine hK _ _ ?_; clear hK K
            refine wpAny_ready (rs := [0, 2]) (by kernel_rfl) (by simp) ?_
            refine AllReady.cons rfl (fun K hK => ?_) ?_
            ·
              go_simp
              refine hK _ _ ?_; clear hK K
              refine wpAny_ready (rs := [2]) (by kernel_rfl) (by simp) ?_
              refine AllReady.cons rfl (fun K hK => ?_) ?_
              ·
                refine step_wB1 rfl rfl Tryz.func119 nmCkR bdCkR rfl (HCK.out _ _ _ (K1.out _ hS.out) (K2.out _ hS.out)) ?_
                intro w13 hC13
                replace hS := Lib.hid (KC.out _ _ hS.out hC13)
                clear m0 m1 m2 m3 m4 m5 y0 y1 y2 y3 y4 y5 r0 r1 r2 r3 r4 r5 g0 g1 g2 g3 g4 g5  hBB
                obtain ⟨m0, m1, m2, m3, m4, m5, y0, y1, y2, y3, y4, y5, r0, r1, r2, r3, r4, r5, g0, g1, g2, g3, g4, g5, _, _, _, hBB⟩ := hS.out
                try go_simp
                refine hK _ _ ?_; clear hK K
                refine wpAny_ready (rs := [3]) (by kernel_rfl) (by simp) ?_
                refine AllReady.cons rfl (fun K hK => ?_) ?_
                ·
                  go_simp
                  refine hK _ _ ?_; clear hK K
                  first | (refine wpAny_take (i := 4) (v := undef) rfl (by kernel_rfl) (by kernel_rfl) (by kernel_rfl) (fun _ _ _ h => h) (Or.inr ⟨by rfl, rfl⟩) ?_) | (refine wpAny_take (i := 4) (v := ?_) rfl (by kernel_rfl) (by kernel_rfl) (by kernel_rfl) (fun _ _ _ h => h) ?_ ?_; rotate_left; focus (refine Or.inl ⟨by rfl, ?_⟩; intro _; go_simp; first | done | with_reducible rfl | (rw [if_neg (by omega)]; done) | (rw [if_neg (by omega)]; with_reducible rfl)))
                  try go_simp
                  refine wpAny_done (by kernel_rfl) ?_ _
                  go_wp2
                  refine bodyPost_ret (v := .tuple #[.agg #[.string ⟨#[]⟩, .string ⟨#[]⟩, .string ⟨#[]⟩, .int .i64 0, .slice none 0 0, .slice none 0 0], .int .i64 C]) (by simp [results, Tryz.results68, go_sem, r0, r1, r2, r3, r4, r5]) rfl ?_
                  exact ⟨_, _, by (rw [HR.out]; rfl), by (rw [HR.out]; exact .inl ⟨⟨_, _, rfl⟩, rfl⟩), by (rw [HR.out]; exact .inl ⟨⟨_, _, rfl⟩, rfl⟩), Fresh.nil _ _ _, Fresh.nil _ _ _, ((((((hBB.setCell (Nat.le_refl _) _).setCell (Nat.le_refl _) _).setCell (Nat.le_refl _) _).setCell (Nat.le_refl _) _).setCell (Nat.le_refl _) _).setCell (Nat.le_refl _) _)⟩
                exact AllReady.nil
              exact AllReady.nil
            refine AllReady.cons rfl (fun K hK => ?_) ?_
            ·
              refine step_wB1 rfl rfl Tryz.func119 nmCkR bdCkR rfl (HCK.out _ _ _ (K1.out _ hS.out) (K2.out _ hS.out)) ?_
              intro w13 hC13
              replace hS := Lib.hid (KC.out _ _ hS.out hC13)
              clear m0 m1 m2 m3 m4 m5 y0 y1 y2 y3 y4 y5 r0 r1 r2 r3 r4 r5 g0 g1 g2 g3 g4 g5  hBB
              obtain ⟨m0, m1, m2, m3, m4, m5, y0, y1, y2, y3, y4, y5, r0, r1, r2, r3, r4, r5, g0, g1, g2, g3, g4, g5, _, _, _, hBB⟩ := hS.out
              try go_simp
              refine hK _ _ ?_; clear hK K
              refine wpAny_ready (rs := [0]) (by kernel_rfl) (by simp) ?_
              refine AllReady.cons rfl (fun K hK => ?_) ?_
              ·
                go_simp
                refine hK _ _ ?_; clear hK K
                refine wpAny_ready (rs := [3]) (by kernel_rfl) (by simp) ?_
                refine AllReady.cons rfl (fun K hK => ?_) ?_
                ·
                  go_simp
                  refine hK _ _ ?_; clear hK K
                  first | (refine wpAny_take (i := 4) (v := undef) rfl (by kernel_rfl) (by kernel_rfl) (by kernel_rfl) (fun _ _ _ h => h) (Or.inr ⟨by rfl, rfl⟩) ?_) | (refine wpAny_take (i := 4) (v := ?_) rfl (by kernel_rfl) (by kernel_rfl) (by kernel_rfl) (fun _ _ _ h => h) ?_ ?_; rotate_left; focus (refine Or.inl ⟨by rfl, ?_⟩; intro _; go_simp; first | done | with_reducible rfl | (rw [if_neg (by omega)]; done) | (rw [if_neg (by omega)]; with_reducible rfl)))
                  try go_simp
                  refine wpAny_done (by kernel_rfl) ?_ _
                  go_wp2
                  refine bodyPost_ret (v := .tuple #[.agg #[.string ⟨#[]⟩, .string ⟨#[]⟩, .string ⟨#[]⟩, .int .i64 0, .slice none 0 0, .slice none 0 0], .int .i64 C]) (by simp [results, Tryz.results68, go_sem, r0, r1, r2, r3, r4, r5]) rfl ?_
                  exact ⟨_, _, by (rw [HR.out]; rfl), by (rw [HR.out]; exact .inl ⟨⟨_, _, rfl⟩, rfl⟩), by (rw [HR.out]; exact .inl ⟨⟨_, _, rfl⟩, rfl⟩), Fresh.nil _ _ _, Fresh.nil _ _ _, ((((((hBB.setCell (Nat.le_refl _) _).setCell (Nat.le_refl _) _).setCell (Nat.le_refl _) _).setCell (Nat.le_refl _) _).setCell (Nat.le_refl _) _).setCell (Nat.le_refl _) _)⟩
                exact AllReady.nil
              exact AllReady.nil
            exact AllReady.nil
          exact AllReady.nil
    · have HSV := Lib.hid (show sv sc = .string SC by rw [← HSCu.out]; simp [sv])
      have HUV := Lib.hid (show sv [] = .string ⟨#[]⟩ by first | rfl | (have h := (show us (⟨#[]⟩ : ByteArray) = [] from rfl); rw [← h]; simp [sv]))
      have HHV := Lib.hid (show sv hl = .string HH by rw [← HHHu.out]; simp [sv])
      have HU0 := Lib.hid (fun (wx : World) => (show RPrms wx (.slice none 0 0) [] from .inl ⟨⟨_, _, rfl⟩, rfl⟩))
      obtain ⟨w1', w2', w3'⟩ := HWO.out rfl
      have hH64 := (host_low _ w1').2.2
      rw [← HHHl.out] at hH64
      have HCK := Lib.hid (fun wx u1 u2 h1 h2 => checkUR_c SC ⟨#[]⟩ HH p u1 u2 PL HL2 hSCl (by omega) wx h1 h2 HPB1.out HPB2.out)
      rw [HSCu.out, (show us (⟨#[]⟩ : ByteArray) = [] from rfl), HHHu.out] at HCK
      obtain ⟨C, hC⟩ : ∃ C, C = checkU ⟨sc, [], hl, p, PL, HL2⟩ := ⟨_, rfl⟩
      unfold endU at hR
      rw [← hC] at HCK hR
      clear hC w1' w2' w3' hH64
      go_upto_region 26 with (first | (go_at_call 122; ((with_reducible refine (HCT3.out _).mono ?_); rintro e w6 ⟨rfl, hD⟩); have hZ := hZ.trans (hD.below (B := w0.heap.size)); obtain ⟨bmR, bmN, hBB⟩ := HX.out _ hZ; obtain ⟨r0, r1, r2, r3, r4, r5, g0, g1, g2, g3, g4, g5, zR⟩ := blk_h6 bmR; obtain ⟨m0, m1, m2, m3, m4, m5, _, _, _, _, _, _, zN⟩ := blk_h6 bmN) | (go_at_call 127; ((with_reducible refine (HSP.out _).mono ?_); rintro e w7 ⟨v, rfl, hv, hC7⟩); have hZ := hZ.trans (hC7.mono hZ.size); obtain ⟨bmR, bmN, hBB⟩ := HX.out _ hZ; obtain ⟨r0, r1, r2, r3, r4, r5, g0, g1, g2, g3, g4, g5, zR⟩ := blk_h6 bmR; obtain ⟨m0, m1, m2, m3, m4, m5, _, _, _, _, _, _, zN⟩ := blk_h6 bmN; have HV := Lib.hid hv; obtain ⟨ao, cap, rfl, hm1, c1⟩ := hv.form; obtain ⟨b, off, rfl, hb1, hc1⟩ := c1 (by simp); have x0 := hc1 0 (by simp); rw [Nat.add_zero] at x0; have k1 : (0 : Int) < ((x :: xs).length : Int) := (by simp); clear hc1 c1 hv; unfold maxLen at hm1) | (go_at_call 128; ((with_reducible refine (HWH.out _).mono ?_); rintro e w8 ⟨rfl, hC8⟩); have hZ := hZ.trans (hC8.mono hZ.size); obtain ⟨bmR, bmN, hBB⟩ := HX.out _ hZ; obtain ⟨r0, r1, r2, r3, r4, r5, g0, g1, g2, g3, g4, g5, zR⟩ := blk_h6 bmR; obtain ⟨m0, m1, m2, m3, m4, m5, _, _, _, _, _, _, zN⟩ := blk_h6 bmN; have HV := Lib.hid (HV.out.below hC8 (Nat.le_refl _))) | (go_at_call 129; ((with_reducible refine (HRD1.out _ _ (by first | exact HV.out.tailB | exact HV.out.tailA (by first | assumption | omega))).mono ?_); rintro e w9 ⟨u1, rfl, hu1, hF1, hC9⟩); have hF1 := hF1.mono (show w.heap.size + 2 ≤ _ from HS2.out ▸ hZ.size); have hZ := hZ.trans (hC9.mono hZ.size); obtain ⟨bmR, bmN, hBB⟩ := HX.out _ hZ; obtain ⟨r0, r1, r2, r3, r4, r5, g0, g1, g2, g3, g4, g5, zR⟩ := blk_h6 bmR; obtain ⟨m0, m1, m2, m3, m4, m5, _, _, _, _, _, _, zN⟩ := blk_h6 bmN; obtain ⟨ao1, cp1, rfl, _, _⟩ := hu1.form; have HU1 := Lib.hid hu1; have HF1 := Lib.hid hF1; clear hu1 hF1) | (go_at_call 127; ((with_reducible refine (HSP2.out _).mono ?_); rintro e w10 ⟨v2, rfl, hv2, hC10⟩); have HU1 := Lib.hid (HU1.out.below hC10 (Nat.le_refl _)); have hZ := hZ.trans (hC10.mono hZ.size); obtain ⟨bmR, bmN, hBB⟩ := HX.out _ hZ; obtain ⟨r0, r1, r2, r3, r4, r5, g0, g1, g2, g3, g4, g5, zR⟩ := blk_h6 bmR; obtain ⟨m0, m1, m2, m3, m4, m5, _, _, _, _, _, _, zN⟩ := blk_h6 bmN) | (go_at_call 129; ((with_reducible refine (HRD2.out _ _ hv2).mono ?_); rintro e w11 ⟨u2, rfl, hu2, hF2, hC11⟩); have hF2 := hF2.mono (show w.heap.size + 2 ≤ _ from HS2.out ▸ hZ.size); have HU1 := Lib.hid (HU1.out.below hC11 (Nat.le_refl _)); have hZ := hZ.trans (hC11.mono hZ.size); obtain ⟨bmR, bmN, hBB⟩ := HX.out _ hZ; obtain ⟨r0, r1, r2, r3, r4, r5, g0, g1, g2, g3, g4, g5, zR⟩ := blk_h6 bmR; obtain ⟨m0, m1, m2, m3, m4, m5, _, _, _, _, _, _, zN⟩ := blk_h6 bmN; obtain ⟨ao2, cp2, rfl, _, _⟩ := hu2.form; have HU2 := Lib.hid hu2; have HF2 := Lib.hid hF2; clear hu2 hF2))
      all_goals
        have hA := hZ.alloc hZ.size (.cells #[.string SC, .string ⟨#[]⟩, .string HH, .int .i64 p, .slice ao1 PL.length cp1, (.slice ao2 HL2.length cp2)] 24)
        have bx := Blk.new w11 24 #[.string SC, .string ⟨#[]⟩, .string HH, .int .i64 p, .slice ao1 PL.length cp1, (.slice ao2 HL2.length cp2)]
        have ha1 := HU1.out.below ((Below.refl w11.heap.size w11).alloc (Nat.le_refl _) (.cells #[.string SC, .string ⟨#[]⟩, .string HH, .int .i64 p, .slice ao1 PL.length cp1, (.slice ao2 HL2.length cp2)] 24)) (Nat.le_refl _)
        have ha2 := HU2.out.below ((Below.refl w11.heap.size w11).alloc (Nat.le_refl _) (.cells #[.string SC, .string ⟨#[]⟩, .string HH, .int .i64 p, .slice ao1 PL.length cp1, (.slice ao2 HL2.length cp2)] 24)) (Nat.le_refl _)
        clear r0 r1 r2 r3 r4 r5 g0 g1 g2 g3 g4 g5 m0 m1 m2 m3 m4 m5
        obtain ⟨wu, hwu⟩ : ∃ x, x = w11.alloc (.cells #[.string SC, .string ⟨#[]⟩, .string HH, .int .i64 p, .slice ao1 PL.length cp1, (.slice ao2 HL2.length cp2)] 24) := ⟨_, rfl⟩
        rw [← hwu] at hA bx ha1 ha2
        have HWU := Lib.hid hwu
        clear hwu
        have HA1 := Lib.hid ha1
        have HA2 := Lib.hid ha2
        clear ha1 ha2
        have zU : w11.heap.size < wu.heap.size := bx.lt
        have HZL := Lib.hid (hZ.size : w0.heap.size ≤ w11.heap.size)
        have hZ := hA
        obtain ⟨bmR, bmN, hBB⟩ := HX.out _ hZ
        obtain ⟨r0, r1, r2, r3, r4, r5, g0, g1, g2, g3, g4, g5, zR⟩ := blk_h6 bmR
        obtain ⟨m0, m1, m2, m3, m4, m5, _, _, _, _, _, _, zN⟩ := blk_h6 bmN
        obtain ⟨y0, y1, y2, y3, y4, y5⟩ := blk_f6 bx
        by_cases hc0 : C = 0
        · subst hc0
          rw [if_pos rfl] at hR
          have HR := Lib.hid hR
          clear hR
          go_wp2_with (go_at_call 119; (try rw [← HWU.out]); ((with_reducible refine (HCK.out _ _ _ HA1.out HA2.out).mono ?_); rintro e w12 ⟨rfl, hC12⟩); have bx := bx.call hC12; have HA1 := Lib.hid (HA1.out.below hC12 (Nat.le_refl _)); have HA2 := Lib.hid (HA2.out.below hC12 (Nat.le_refl _)); have zU := Nat.lt_of_lt_of_le zU hC12.size; have hZ := hZ.trans (hC12.mono hZ.size); obtain ⟨bmR, bmN, hBB⟩ := HX.out _ hZ; obtain ⟨r0, r1, r2, r3, r4, r5, g0, g1, g2, g3, g4, g5, zR⟩ := blk_h6 bmR; obtain ⟨m0, m1, m2, m3, m4, m5, _, _, _, _, _, _, zN⟩ := blk_h6 bmN; obtain ⟨y0, y1, y2, y3, y4, y5⟩ := blk_f6 bx)
          refine bodyPost_ret (v := .tuple #[.agg #[.string SC, .string ⟨#[]⟩, .string HH, .int .i64 p, .slice ao1 PL.length cp1, (.slice ao2 HL2.length cp2)], .int .i64 0]) (by simp [results, Tryz.results68, go_sem, r0, r1, r2, r3, r4, r5]) rfl ?_
          exact ⟨_, _, by (rw [HR.out]; show _ = Ending.returned (.tuple #[.agg #[sv sc, sv [], sv hl, .int .i64 p, _, _], .int .i64 0]); rw [HSV.out, HUV.out, HHV.out]), (by rw [HR.out]; exact (RPrms.set (RPrms.set (RPrms.set (RPrms.set (RPrms.set (RPrms.set HA1.out HF1.out (p := ⟨w.heap.size, 0, none⟩) (show w.heap.size < w.heap.size + 2 by omega) _) HF1.out (p := ⟨w.heap.size, 1, none⟩) (show w.heap.size < w.heap.size + 2 by omega) _) HF1.out (p := ⟨w.heap.size, 2, none⟩) (show w.heap.size < w.heap.size + 2 by omega) _) HF1.out (p := ⟨w.heap.size, 3, none⟩) (show w.heap.size < w.heap.size + 2 by omega) _) HF1.out (p := ⟨w.heap.size, 4, none⟩) (show w.heap.size < w.heap.size + 2 by omega) _) HF1.out (p := ⟨w.heap.size, 5, none⟩) (show w.heap.size < w.heap.size + 2 by omega) _)), (by rw [HR.out]; exact (RPrms.set (RPrms.set (RPrms.set (RPrms.set (RPrms.set (RPrms.set HA2.out HF2.out (p := ⟨w.heap.size, 0, none⟩) (show w.heap.size < w.heap.size + 2 by omega) _) HF2.out (p := ⟨w.heap.size, 1, none⟩) (show w.heap.size < w.heap.size + 2 by omega) _) HF2.out (p := ⟨w.heap.size, 2, none⟩) (show w.heap.size < w.heap.size + 2 by omega) _) HF2.out (p := ⟨w.heap.size, 3, none⟩) (show w.heap.size < w.heap.size + 2 by omega) _) HF2.out (p := ⟨w.heap.size, 4, none⟩) (show w.heap.size < w.heap.size + 2 by omega) _) HF2.out (p := ⟨w.heap.size, 5, none⟩) (show w.heap.size < w.heap.size + 2 by omega) _)), HF1.out.mono (by omega), HF2.out.mono (by omega), ((((((hBB.setCell (Nat.le_refl _) _).setCell (Nat.le_refl _) _).setCell (Nat.le_refl _) _).setCell (Nat.le_refl _) _).setCell (Nat.le_refl _) _).setCell (Nat.le_refl _) _)⟩
        · rw [if_neg hc0] at hR
          have HR := Lib.hid hR
          have t9 : (C != 0) = true := by simpa using hc0
          clear hR hc0
          go_wp2_with (go_at_call 119; (try rw [← HWU.out]); ((with_reducible refine (HCK.out _ _ _ HA1.out HA2.out).mono ?_); rintro e w12 ⟨rfl, hC12⟩); have bx := bx.call hC12; have HA1 := Lib.hid (HA1.out.below hC12 (Nat.le_refl _)); have HA2 := Lib.hid (HA2.out.below hC12 (Nat.le_refl _)); have zU := Nat.lt_of_lt_of_le zU hC12.size; have hZ := hZ.trans (hC12.mono hZ.size); obtain ⟨bmR, bmN, hBB⟩ := HX.out _ hZ; obtain ⟨r0, r1, r2, r3, r4, r5, g0, g1, g2, g3, g4, g5, zR⟩ := blk_h6 bmR; obtain ⟨m0, m1, m2, m3, m4, m5, _, _, _, _, _, _, zN⟩ := blk_h6 bmN; obtain ⟨y0, y1, y2, y3, y4, y5⟩ := blk_f6 bx)
          have zW : w.heap.size + 2 ≤ w11.heap.size := by have := HZL.out; have h2 := HS2.out; omega
          have KC := Lib.hid (fun (wx w' : World) (h : wx.cell? ⟨w.heap.size + 1, 0, none⟩ = some (.string ⟨#[]⟩) ∧ wx.cell? ⟨w.heap.size + 1, 1, none⟩ = some (.string ⟨#[]⟩) ∧ wx.cell? ⟨w.heap.size + 1, 2, none⟩ = some (.string ⟨#[]⟩) ∧ wx.cell? ⟨w.heap.size + 1, 3, none⟩ = some (.int .i64 0) ∧ wx.cell? ⟨w.heap.size + 1, 4, none⟩ = some (.slice none 0 0) ∧ wx.cell? ⟨w.heap.size + 1, 5, none⟩ = some (.slice none 0 0) ∧ wx.cell? ⟨w11.heap.size, 0, none⟩ = some (.string SC) ∧ wx.cell? ⟨w11.heap.size, 1, none⟩ = some (.string ⟨#[]⟩) ∧ wx.cell? ⟨w11.heap.size, 2, none⟩ = some (.string HH) ∧ wx.cell? ⟨w11.heap.size, 3, none⟩ = some (.int .i64 p) ∧ wx.cell? ⟨w11.heap.size, 4, none⟩ = some (.slice ao1 PL.length cp1) ∧ wx.cell? ⟨w11.heap.size, 5, none⟩ = some (.slice ao2 HL2.length cp2) ∧ wx.cell? ⟨w.heap.size, 0, none⟩ = some (.string ⟨#[]⟩) ∧ wx.cell? ⟨w.heap.size, 1, none⟩ = some (.string ⟨#[]⟩) ∧ wx.cell? ⟨w.heap.size, 2, none⟩ = some (.string ⟨#[]⟩) ∧ wx.cell? ⟨w.heap.size, 3, none⟩ = some (.int .i64 0) ∧ wx.cell? ⟨w.heap.size, 4, none⟩ = some (.slice none 0 0) ∧ wx.cell? ⟨w.heap.size, 5, none⟩ = some (.slice none 0 0) ∧ wx.frozen? ⟨w.heap.size, 0, none⟩ = false ∧ wx.frozen? ⟨w.heap.size, 1, none⟩ = false ∧ wx.frozen? ⟨w.heap.size, 2, none⟩ = false ∧ wx.frozen? ⟨w.heap.size, 3, none⟩ = false ∧ wx.frozen? ⟨w.heap.size, 4, none⟩ = false ∧ wx.frozen? ⟨w.heap.size, 5, none⟩ = false ∧ Blk wx w.heap.size 24 #[.string ⟨#[]⟩, .string ⟨#[]⟩, .string ⟨#[]⟩, .int .i64 0, .slice none 0 0, .slice none 0 0] ∧ RPrms wx (.slice ao1 PL.length cp1) PL ∧ RPrms wx (.slice ao2 HL2.length cp2) HL2 ∧ Below w.heap.size w wx) (hC : Below wx.heap.size wx w') => (show w'.cell? ⟨w.heap.size + 1, 0, none⟩ = some (.string ⟨#[]⟩) ∧ w'.cell? ⟨w.heap.size + 1, 1, none⟩ = some (.string ⟨#[]⟩) ∧ w'.cell? ⟨w.heap.size + 1, 2, none⟩ = some (.string ⟨#[]⟩) ∧ w'.cell? ⟨w.heap.size + 1, 3, none⟩ = some (.int .i64 0) ∧ w'.cell? ⟨w.heap.size + 1, 4, none⟩ = some (.slice none 0 0) ∧ w'.cell? ⟨w.heap.size + 1, 5, none⟩ = some (.slice none 0 0) ∧ w'.cell? ⟨w11.heap.size, 0, none⟩ = some (.string SC) ∧ w'.cell? ⟨w11.heap.size, 1, none⟩ = some (.string ⟨#[]⟩) ∧ w'.cell? ⟨w11.heap.size, 2, none⟩ = some (.string HH) ∧ w'.cell? ⟨w11.heap.size, 3, none⟩ = some (.int .i64 p) ∧ w'.cell? ⟨w11.heap.size, 4, none⟩ = some (.slice ao1 PL.length cp1) ∧ w'.cell? ⟨w11.heap.size, 5, none⟩ = some (.slice ao2 HL2.length cp2) ∧ w'.cell? ⟨w.heap.size, 0, none⟩ = some (.string ⟨#[]⟩) ∧ w'.cell? ⟨w.heap.size, 1, none⟩ = some (.string ⟨#[]⟩) ∧ w'.cell? ⟨w.heap.size, 2, none⟩ = some (.string ⟨#[]⟩) ∧ w'.cell? ⟨w.heap.size, 3, none⟩ = some (.int .i64 0) ∧ w'.cell? ⟨w.heap.size, 4, none⟩ = some (.slice none 0 0) ∧ w'.cell? ⟨w.heap.size, 5, none⟩ = some (.slice none 0 0) ∧ w'.frozen? ⟨w.heap.size, 0, none⟩ = false ∧ w'.frozen? ⟨w.heap.size, 1, none⟩ = false ∧ w'.frozen? ⟨w.heap.size, 2, none⟩ = false ∧ w'.frozen? ⟨w.heap.size, 3, none⟩ = false ∧ w'.frozen? ⟨w.heap.size, 4, none⟩ = false ∧ w'.frozen? ⟨w.heap.size, 5, none⟩ = false ∧ Blk w' w.heap.size 24 #[.string ⟨#[]⟩, .string ⟨#[]⟩, .string ⟨#[]⟩, .int .i64 0, .slice none 0 0, .slice none 0 0] ∧ RPrms w' (.slice ao1 PL.length cp1) PL ∧ RPrms w' (.slice ao2 HL2.length cp2) HL2 ∧ Below w.heap.size w w' from by
            obtain ⟨h0, h1, h2, h3, h4, h5, h6, h7, h8, h9, h10, h11, _, _, _, _, _, _, _, _, _, _, _, _, hb, hr1, hr2, hB⟩ := h
            have nb := hb.call hC
            obtain ⟨b0, b1, b2, b3, b4, b5, b6, b7, b8, b9, b10, b11, _⟩ := blk_h6 nb
            exact ⟨(hC.cell (World.block_lt_of_cell? wx _ h0)).trans h0, (hC.cell (World.block_lt_of_cell? wx _ h1)).trans h1, (hC.cell (World.block_lt_of_cell? wx _ h2)).trans h2, (hC.cell (World.block_lt_of_cell? wx _ h3)).trans h3, (hC.cell (World.block_lt_of_cell? wx _ h4)).trans h4, (hC.cell (World.block_lt_of_cell? wx _ h5)).trans h5, (hC.cell (World.block_lt_of_cell? wx _ h6)).trans h6, (hC.cell (World.block_lt_of_cell? wx _ h7)).trans h7, (hC.cell (World.block_lt_of_cell? wx _ h8)).trans h8, (hC.cell (World.block_lt_of_cell? wx _ h9)).trans h9, (hC.cell (World.block_lt_of_cell? wx _ h10)).trans h10, (hC.cell (World.block_lt_of_cell? wx _ h11)).trans h11, b0, b1, b2, b3, b4, b5, b6, b7, b8, b9, b10, b11, hb.call hC, hr1.below hC (Nat.le_refl _), hr2.below hC (Nat.le_refl _), hB.trans (hC.mono hB.size)⟩))
          have K1 := Lib.hid (fun (wx : World) (h : wx.cell? ⟨w.heap.size + 1, 0, none⟩ = some (.string ⟨#[]⟩) ∧ wx.cell? ⟨w.heap.size + 1, 1, none⟩ = some (.string ⟨#[]⟩) ∧ wx.cell? ⟨w.heap.size + 1, 2, none⟩ = some (.string ⟨#[]⟩) ∧ wx.cell? ⟨w.heap.size + 1, 3, none⟩ = some (.int .i64 0) ∧ wx.cell? ⟨w.heap.size + 1, 4, none⟩ = some (.slice none 0 0) ∧ wx.cell? ⟨w.heap.size + 1, 5, none⟩ = some (.slice none 0 0) ∧ wx.cell? ⟨w11.heap.size, 0, none⟩ = some (.string SC) ∧ wx.cell? ⟨w11.heap.size, 1, none⟩ = some (.string ⟨#[]⟩) ∧ wx.cell? ⟨w11.heap.size, 2, none⟩ = some (.string HH) ∧ wx.cell? ⟨w11.heap.size, 3, none⟩ = some (.int .i64 p) ∧ wx.cell? ⟨w11.heap.size, 4, none⟩ = some (.slice ao1 PL.length cp1) ∧ wx.cell? ⟨w11.heap.size, 5, none⟩ = some (.slice ao2 HL2.length cp2) ∧ wx.cell? ⟨w.heap.size, 0, none⟩ = some (.string ⟨#[]⟩) ∧ wx.cell? ⟨w.heap.size, 1, none⟩ = some (.string ⟨#[]⟩) ∧ wx.cell? ⟨w.heap.size, 2, none⟩ = some (.string ⟨#[]⟩) ∧ wx.cell? ⟨w.heap.size, 3, none⟩ = some (.int .i64 0) ∧ wx.cell? ⟨w.heap.size, 4, none⟩ = some (.slice none 0 0) ∧ wx.cell? ⟨w.heap.size, 5, none⟩ = some (.slice none 0 0) ∧ wx.frozen? ⟨w.heap.size, 0, none⟩ = false ∧ wx.frozen? ⟨w.heap.size, 1, none⟩ = false ∧ wx.frozen? ⟨w.heap.size, 2, none⟩ = false ∧ wx.frozen? ⟨w.heap.size, 3, none⟩ = false ∧ wx.frozen? ⟨w.heap.size, 4, none⟩ = false ∧ wx.frozen? ⟨w.heap.size, 5, none⟩ = false ∧ Blk wx w.heap.size 24 #[.string ⟨#[]⟩, .string ⟨#[]⟩, .string ⟨#[]⟩, .int .i64 0, .slice none 0 0, .slice none 0 0] ∧ RPrms wx (.slice ao1 PL.length cp1) PL ∧ RPrms wx (.slice ao2 HL2.length cp2) HL2 ∧ Below w.heap.size w wx) => (show RPrms wx (.slice ao1 PL.length cp1) PL from h.2.2.2.2.2.2.2.2.2.2.2.2.2.2.2.2.2.2.2.2.2.2.2.2.2.1))
          have K2 := Lib.hid (fun (wx : World) (h : wx.cell? ⟨w.heap.size + 1, 0, none⟩ = some (.string ⟨#[]⟩) ∧ wx.cell? ⟨w.heap.size + 1, 1, none⟩ = some (.string ⟨#[]⟩) ∧ wx.cell? ⟨w.heap.size + 1, 2, none⟩ = some (.string ⟨#[]⟩) ∧ wx.cell? ⟨w.heap.size + 1, 3, none⟩ = some (.int .i64 0) ∧ wx.cell? ⟨w.heap.size + 1, 4, none⟩ = some (.slice none 0 0) ∧ wx.cell? ⟨w.heap.size + 1, 5, none⟩ = some (.slice none 0 0) ∧ wx.cell? ⟨w11.heap.size, 0, none⟩ = some (.string SC) ∧ wx.cell? ⟨w11.heap.size, 1, none⟩ = some (.string ⟨#[]⟩) ∧ wx.cell? ⟨w11.heap.size, 2, none⟩ = some (.string HH) ∧ wx.cell? ⟨w11.heap.size, 3, none⟩ = some (.int .i64 p) ∧ wx.cell? ⟨w11.heap.size, 4, none⟩ = some (.slice ao1 PL.length cp1) ∧ wx.cell? ⟨w11.heap.size, 5, none⟩ = some (.slice ao2 HL2.length cp2) ∧ wx.cell? ⟨w.heap.size, 0, none⟩ = some (.string ⟨#[]⟩) ∧ wx.cell? ⟨w.heap.size, 1, none⟩ = some (.string ⟨#[]⟩) ∧ wx.cell? ⟨w.heap.size, 2, none⟩ = some (.string ⟨#[]⟩) ∧ wx.cell? ⟨w.heap.size, 3, none⟩ = some (.int .i64 0) ∧ wx.cell? ⟨w.heap.size, 4, none⟩ = some (.slice none 0 0) ∧ wx.cell? ⟨w.heap.size, 5, none⟩ = some (.slice none 0 0) ∧ wx.frozen? ⟨w.heap.size, 0, none⟩ = false ∧ wx.frozen? ⟨w.heap.size, 1, none⟩ = false ∧ wx.frozen? ⟨w.heap.size, 2, none⟩ = false ∧ wx.frozen? ⟨w.heap.size, 3, none⟩ = false ∧ wx.frozen? ⟨w.heap.size, 4, none⟩ = false ∧ wx.frozen? ⟨w.heap.size, 5, none⟩ = false ∧ Blk wx w.heap.size 24 #[.string ⟨#[]⟩, .string ⟨#[]⟩, .string ⟨#[]⟩, .int .i64 0, .slice none 0 0, .slice none 0 0] ∧ RPrms wx (.slice ao1 PL.length cp1) PL ∧ RPrms wx (.slice ao2 HL2.length cp2) HL2 ∧ Below w.heap.size w wx) => (show RPrms wx (.slice ao2 HL2.length cp2) HL2 from h.2.2.2.2.2.2.2.2.2.2.2.2.2.2.2.2.2.2.2.2.2.2.2.2.2.2.1))
          have hS0 := Lib.hid (show w12.cell? ⟨w.heap.size + 1, 0, none⟩ = some (.string ⟨#[]⟩) ∧ w12.cell? ⟨w.heap.size + 1, 1, none⟩ = some (.string ⟨#[]⟩) ∧ w12.cell? ⟨w.heap.size + 1, 2, none⟩ = some (.string ⟨#[]⟩) ∧ w12.cell? ⟨w.heap.size + 1, 3, none⟩ = some (.int .i64 0) ∧ w12.cell? ⟨w.heap.size + 1, 4, none⟩ = some (.slice none 0 0) ∧ w12.cell? ⟨w.heap.size + 1, 5, none⟩ = some (.slice none 0 0) ∧ w12.cell? ⟨w11.heap.size, 0, none⟩ = some (.string SC) ∧ w12.cell? ⟨w11.heap.size, 1, none⟩ = some (.string ⟨#[]⟩) ∧ w12.cell? ⟨w11.heap.size, 2, none⟩ = some (.string HH) ∧ w12.cell? ⟨w11.heap.size, 3, none⟩ = some (.int .i64 p) ∧ w12.cell? ⟨w11.heap.size, 4, none⟩ = some (.slice ao1 PL.length cp1) ∧ w12.cell? ⟨w11.heap.size, 5, none⟩ = some (.slice ao2 HL2.length cp2) ∧ w12.cell? ⟨w.heap.size, 0, none⟩ = some (.string ⟨#[]⟩) ∧ w12.cell? ⟨w.heap.size, 1, none⟩ = some (.string ⟨#[]⟩) ∧ w12.cell? ⟨w.heap.size, 2, none⟩ = some (.string ⟨#[]⟩) ∧ w12.cell? ⟨w.heap.size, 3, none⟩ = some (.int .i64 0) ∧ w12.cell? ⟨w.heap.size, 4, none⟩ = some (.slice none 0 0) ∧ w12.cell? ⟨w.heap.size, 5, none⟩ = some (.slice none 0 0) ∧ w12.frozen? ⟨w.heap.size, 0, none⟩ = false ∧ w12.frozen? ⟨w.heap.size, 1, none⟩ = false ∧ w12.frozen? ⟨w.heap.size, 2, none⟩ = false ∧ w12.frozen? ⟨w.heap.size, 3, none⟩ = false ∧ w12.frozen? ⟨w.heap.size, 4, none⟩ = false ∧ w12.frozen? ⟨w.heap.size, 5, none⟩ = false ∧ Blk w12 w.heap.size 24 #[.string ⟨#[]⟩, .string ⟨#[]⟩, .string ⟨#[]⟩, .int .i64 0, .slice none 0 0, .slice none 0 0] ∧ RPrms w12 (.slice ao1 PL.length cp1) PL ∧ RPrms w12 (.slice ao2 HL2.length cp2) HL2 ∧ Below w.heap.size w w12 from ⟨m0, m1, m2, m3, m4, m5, y0, y1, y2, y3, y4, y5, r0, r1, r2, r3, r4, r5, g0, g1, g2, g3, g4, g5, bmR, HA1.out, HA2.out, hBB⟩)
          clear m0 m1 m2 m3 m4 m5 y0 y1 y2 y3 y4 y5 bmR bmN bx hBB hZ r0 r1 r2 r3 r4 r5 g0 g1 g2 g3 g4 g5
          skip
          have hS := Lib.hid (KC.out _ _ hS0.out ((Below.refl _ _).drew))
          obtain ⟨m0, m1, m2, m3, m4, m5, y0, y1, y2, y3, y4, y5, r0, r1, r2, r3, r4, r5, g0, g1, g2, g3, g4, g5, _, _, _, hBB⟩ := hS0.out
          clear hS0
          refine wp_region_any (by kernel_rfl) ?_
          try (change wpAny _ _ _ _ _ _ _ (World.drew _))
          refine wpAny_ready (rs := [0, 1]) (by kernel_rfl) (by simp) ?_
          refine AllReady.cons rfl (fun K hK => ?_) ?_
          ·
            go_simp
            refine hK _ _ ?_; clear hK K
            refine wpAny_ready (rs := [1]) (by kernel_rfl) (by simp) ?_
            refine AllReady.cons rfl (fun K hK => ?_) ?_
            ·
              go_simp
              refine hK _ _ ?_; clear hK K
              refine wpAny_ready (rs := [2]) (by kernel_rfl) (by simp) ?_
              refine AllReady.cons rfl (fun K hK => ?_) ?_
              ·
                refine step_wB1 rfl rfl Tryz.func119 nmCkR bdCkR rfl (HCK.out _ _ _ (K1.out _ hS.out) (K2.out _ hS.out)) ?_
                intro w13 hC13
                replace hS := Lib.hid (KC.out _ _ hS.out hC13)
                clear m0 m1 m2 m3 m4 m5 y0 y1 y2 y3 y4 y5 r0 r1 r2 r3 r4 r5 g0 g1 g2 g3 g4 g5  hBB
                obtain ⟨m0, m1, m2, m3, m4, m5, y0, y1, y2, y3, y4, y5, r0, r1, r2, r3, r4, r5, g0, g1, g2, g3, g4, g5, _, _, _, hBB⟩ := hS.out
                try go_simp
                refine hK _ _ ?_; clear hK K
                refine wpAny_ready (rs := [3]) (by kernel_rfl) (by simp) ?_
                refine AllReady.cons rfl (fun K hK => ?_) ?_
                ·
                  go_simp
                  refine hK _ _ ?_; clear hK K
                  first | (refine wpAny_take (i := 4) (v := undef) rfl (by kernel_rfl) (by kernel_rfl) (by kernel_rfl) (fun _ _ _ h => h) (Or.inr ⟨by rfl, rfl⟩) ?_) | (refine wpAny_take (i := 4) (v := ?_) rfl (by kernel_rfl) (by kernel_rfl) (by kernel_rfl) (fun _ _ _ h => h) ?_ ?_; rotate_left; focus (refine Or.inl ⟨by rfl, ?_⟩; intro _; go_simp; first | done | with_reducible rfl | (rw [if_neg (by omega)]; done) | (rw [if_neg (by omega)]; with_reducible rfl)))
                  try go_simp
                  refine wpAny_done (by kernel_rfl) ?_ _
                  go_wp2
                  refine bodyPost_ret (v := .tuple #[.agg #[.string ⟨#[]⟩, .string ⟨#[]⟩, .string ⟨#[]⟩, .int .i64 0, .slice none 0 0, .slice none 0 0], .int .i64 C]) (by simp [results, Tryz.results68, go_sem, r0, r1, r2, r3, r4, r5]) rfl ?_
                  exact ⟨_, _, by (rw [HR.out]; rfl), by (rw [HR.out]; exact .inl ⟨⟨_, _, rfl⟩, rfl⟩), by (rw [HR.out]; exact .inl ⟨⟨_, _, rfl⟩, rfl⟩), Fresh.nil _ _ _, Fresh.nil _ _ _, ((((((hBB.setCell (Nat.le_refl _) _).setCell (Nat.le_refl _) _).setCell (Nat.le_refl _) _).setCell (Nat.le_refl _) _).setCell (Nat.le_refl _) _).setCell (Nat.le_refl _) _)⟩
                exact AllReady.nil
              exact AllReady.nil
            exact AllReady.nil
          refine AllReady.cons rfl (fun K hK => ?_) ?_
          ·
            go_simp
            refine hK _ _ ?_; clear hK K
            refine wpAny_ready (rs := [0, 2]) (by kernel_rfl) (by simp) ?_
            refine AllReady.cons rfl (fun K hK => ?_) ?_
            ·
              go_simp
              refine hK _ _ ?_; clear hK K
              refine wpAny_ready (rs := [2]) (by kernel_rfl) (by simp) ?_
              refine AllReady.cons rfl (fun K hK => ?_) ?_
              ·
                refine step_wB1 rfl rfl Tryz.func119 nmCkR bdCkR rfl (HCK.out _ _ _ (K1.out _ hS.out) (K2.out _ hS.out)) ?_
                intro w13 hC13
                replace hS := Lib.hid (KC.out _ _ hS.out hC13)
                clear m0 m1 m2 m3 m4 m5 y0 y1 y2 y3 y4 y5 r0 r1 r2 r3 r4 r5 g0 g1 g2 g3 g4 g5  hBB
                obtain ⟨m0, m1, m2, m3, m4, m5, y0, y1, y2, y3, y4, y5, r0, r1, r2, r3, r4, r5, g0, g1, g2, g3, g4, g5, _, _, _, hBB⟩ := hS.out
                try go_simp
                refine hK _ _ ?_; clear hK K
                refine wpAny_ready (rs := [3]) (by kernel_rfl) (by simp) ?_
                refine AllReady.cons rfl (fun K hK => ?_) ?_
                ·
                  go_simp
                  refine hK _ _ ?_; clear hK K
                  first | (refine wpAny_take (i := 4) (v := undef) rfl (by kernel_rfl) (by kernel_rfl) (by kernel_rfl) (fun _ _ _ h => h) (Or.inr ⟨by rfl, rfl⟩) ?_) | (refine wpAny_take (i := 4) (v := ?_) rfl (by kernel_rfl) (by kernel_rfl) (by kernel_rfl) (fun _ _ _ h => h) ?_ ?_; rotate_left; focus (refine Or.inl ⟨by rfl, ?_⟩; intro _; go_simp; first | done | with_reducible rfl | (rw [if_neg (by omega)]; done) | (rw [if_neg (by omega)]; with_reducible rfl)))
                  try go_simp
                  refine wpAny_done (by kernel_rfl) ?_ _
                  go_wp2
                  refine bodyPost_ret (v := .tuple #[.agg #[.string ⟨#[]⟩, .string ⟨#[]⟩, .string ⟨#[]⟩, .int .i64 0, .slice none 0 0, .slice none 0 0], .int .i64 C]) (by simp [results, Tryz.results68, go_sem, r0, r1, r2, r3, r4, r5]) rfl ?_
                  exact ⟨_, _, by (rw [HR.out]; rfl), by (rw [HR.out]; exact .inl ⟨⟨_, _, rfl⟩, rfl⟩), by (rw [HR.out]; exact .inl ⟨⟨_, _, rfl⟩, rfl⟩), Fresh.nil _ _ _, Fresh.nil _ _ _, ((((((hBB.setCell (Nat.le_refl _) _).setCell (Nat.le_refl _) _).setCell (Nat.le_refl _) _).setCell (Nat.le_refl _) _).setCell (Nat.le_refl _) _).setCell (Nat.le_refl _) _)⟩
                exact AllReady.nil
              exact AllReady.nil
            refine AllReady.cons rfl (fun K hK => ?_) ?_
            ·
              refine step_wB1 rfl rfl Tryz.func119 nmCkR bdCkR rfl (HCK.out _ _ _ (K1.out _ hS.out) (K2.out _ hS.out)) ?_
              intro w13 hC13
              replace hS := Lib.hid (KC.out _ _ hS.out hC13)
              clear m0 m1 m2 m3 m4 m5 y0 y1 y2 y3 y4 y5 r0 r1 r2 r3 r4 r5 g0 g1 g2 g3 g4 g5  hBB
              obtain ⟨m0, m1, m2, m3, m4, m5, y0, y1, y2, y3, y4, y5, r0, r1, r2, r3, r4, r5, g0, g1, g2, g3, g4, g5, _, _, _, hBB⟩ := hS.out
              try go_simp
              refine hK _ _ ?_; clear hK K
              refine wpAny_ready (rs := [0]) (by kernel_rfl) (by simp) ?_
              refine AllReady.cons rfl (fun K hK => ?_) ?_
              ·
                go_simp
                refine hK _ _ ?_; clear hK K
                refine wpAny_ready (rs := [3]) (by kernel_rfl) (by simp) ?_
                refine AllReady.cons rfl (fun K hK => ?_) ?_
                ·
                  go_simp
                  refine hK _ _ ?_; clear hK K
                  first | (refine wpAny_take (i := 4) (v := undef) rfl (by kernel_rfl) (by kernel_rfl) (by kernel_rfl) (fun _ _ _ h => h) (Or.inr ⟨by rfl, rfl⟩) ?_) | (refine wpAny_take (i := 4) (v := ?_) rfl (by kernel_rfl) (by kernel_rfl) (by kernel_rfl) (fun _ _ _ h => h) ?_ ?_; rotate_left; focus (refine Or.inl ⟨by rfl, ?_⟩; intro _; go_simp; first | done | with_reducible rfl | (rw [if_neg (by omega)]; done) | (rw [if_neg (by omega)]; with_reducible rfl)))
                  try go_simp
                  refine wpAny_done (by kernel_rfl) ?_ _
                  go_wp2
                  refine bodyPost_ret (v := .tuple #[.agg #[.string ⟨#[]⟩, .string ⟨#[]⟩, .string ⟨#[]⟩, .int .i64 0, .slice none 0 0, .slice none 0 0], .int .i64 C]) (by simp [results, Tryz.results68, go_sem, r0, r1, r2, r3, r4, r5]) rfl ?_
                  exact ⟨_, _, by (rw [HR.out]; rfl), by (rw [HR.out]; exact .inl ⟨⟨_, _, rfl⟩, rfl⟩), by (rw [HR.out]; exact .inl ⟨⟨_, _, rfl⟩, rfl⟩), Fresh.nil _ _ _, Fresh.nil _ _ _, ((((((hBB.setCell (Nat.le_refl _) _).setCell (Nat.le_refl _) _).setCell (Nat.le_refl _) _).setCell (Nat.le_refl _) _).setCell (Nat.le_refl _) _).setCell (Nat.le_refl _) _)⟩
                exact AllReady.nil
              exact AllReady.nil
            exact AllReady.nil
          exact AllReady.nil
  · have HR := Lib.hid hR
    clear hR
    go_wp2_with (first | (go_at_call 125; ((with_reducible refine (HHA.out _).mono ?_); rintro e wx ⟨rfl, rfl⟩)) | (go_at_call 122; ((with_reducible refine (HCT2.out _).mono ?_); rintro e w4 ⟨rfl, hD⟩); have hZ := hZ.trans (hD.below (B := w0.heap.size)); obtain ⟨bmR, bmN, hBB⟩ := HX.out _ hZ; obtain ⟨r0, r1, r2, r3, r4, r5, g0, g1, g2, g3, g4, g5, zR⟩ := blk_h6 bmR; obtain ⟨m0, m1, m2, m3, m4, m5, _, _, _, _, _, _, zN⟩ := blk_h6 bmN) | (go_at_call 126; ((with_reducible refine (HPL.out _).mono ?_); rintro e w5 ⟨rfl, hC5⟩); have hZ := hZ.trans (hC5.mono hZ.size); obtain ⟨bmR, bmN, hBB⟩ := HX.out _ hZ; obtain ⟨r0, r1, r2, r3, r4, r5, g0, g1, g2, g3, g4, g5, zR⟩ := blk_h6 bmR; obtain ⟨m0, m1, m2, m3, m4, m5, _, _, _, _, _, _, zN⟩ := blk_h6 bmN))
    refine bodyPost_ret (v := .tuple #[.agg #[.string ⟨#[]⟩, .string ⟨#[]⟩, .string ⟨#[]⟩, .int .i64 0, .slice none 0 0, .slice none 0 0], .int .i64 31]) (by simp [results, Tryz.results68, go_sem, r0, r1, r2, r3, r4, r5]) rfl ?_
    exact ⟨_, _, by (rw [HR.out]; rfl), by (rw [HR.out]; exact .inl ⟨⟨_, _, rfl⟩, rfl⟩), by (rw [HR.out]; exact .inl ⟨⟨_, _, rfl⟩, rfl⟩), Fresh.nil _ _ _, Fresh.nil _ _ _, ((((((hBB.setCell (Nat.le_refl _) _).setCell (Nat.le_refl _) _).setCell (Nat.le_refl _) _).setCell (Nat.le_refl _) _).setCell (Nat.le_refl _) _).setCell (Nat.le_refl _) _)⟩
  · have HR := Lib.hid hR
    clear hR
    rcases hb with hb | hb
    · obtain rfl := eq_empty hb
      clear hb
      go_wp2_with (first | (go_at_call 125; ((with_reducible refine (HHA.out _).mono ?_); rintro e wx ⟨rfl, rfl⟩)) | (go_at_call 122; ((with_reducible refine (HCT2.out _).mono ?_); rintro e w4 ⟨rfl, hD⟩); have hZ := hZ.trans (hD.below (B := w0.heap.size)); obtain ⟨bmR, bmN, hBB⟩ := HX.out _ hZ; obtain ⟨r0, r1, r2, r3, r4, r5, g0, g1, g2, g3, g4, g5, zR⟩ := blk_h6 bmR; obtain ⟨m0, m1, m2, m3, m4, m5, _, _, _, _, _, _, zN⟩ := blk_h6 bmN) | (go_at_call 126; ((with_reducible refine (HPL.out _).mono ?_); rintro e w5 ⟨rfl, hC5⟩); have hZ := hZ.trans (hC5.mono hZ.size); obtain ⟨bmR, bmN, hBB⟩ := HX.out _ hZ; obtain ⟨r0, r1, r2, r3, r4, r5, g0, g1, g2, g3, g4, g5, zR⟩ := blk_h6 bmR; obtain ⟨m0, m1, m2, m3, m4, m5, _, _, _, _, _, _, zN⟩ := blk_h6 bmN))
      refine bodyPost_ret (v := .tuple #[.agg #[.string ⟨#[]⟩, .string ⟨#[]⟩, .string ⟨#[]⟩, .int .i64 0, .slice none 0 0, .slice none 0 0], .int .i64 31]) (by simp [results, Tryz.results68, go_sem, r0, r1, r2, r3, r4, r5]) rfl ?_
      exact ⟨_, _, by (rw [HR.out]; rfl), by (rw [HR.out]; exact .inl ⟨⟨_, _, rfl⟩, rfl⟩), by (rw [HR.out]; exact .inl ⟨⟨_, _, rfl⟩, rfl⟩), Fresh.nil _ _ _, Fresh.nil _ _ _, ((((((hBB.setCell (Nat.le_refl _) _).setCell (Nat.le_refl _) _).setCell (Nat.le_refl _) _).setCell (Nat.le_refl _) _).setCell (Nat.le_refl _) _).setCell (Nat.le_refl _) _)⟩
    · have pE := ne_empty (s := UN) (by omega)
      have pF := isEmpty_f (s := UN) (by omega)
      go_wp2_with (first | (go_at_call 125; ((with_reducible refine (HHA.out _).mono ?_); rintro e wx ⟨rfl, rfl⟩)) | (go_at_call 122; ((with_reducible refine (HCT2.out _).mono ?_); rintro e w4 ⟨rfl, hD⟩); have hZ := hZ.trans (hD.below (B := w0.heap.size)); obtain ⟨bmR, bmN, hBB⟩ := HX.out _ hZ; obtain ⟨r0, r1, r2, r3, r4, r5, g0, g1, g2, g3, g4, g5, zR⟩ := blk_h6 bmR; obtain ⟨m0, m1, m2, m3, m4, m5, _, _, _, _, _, _, zN⟩ := blk_h6 bmN) | (go_at_call 126; ((with_reducible refine (HPL.out _).mono ?_); rintro e w5 ⟨rfl, hC5⟩); have hZ := hZ.trans (hC5.mono hZ.size); obtain ⟨bmR, bmN, hBB⟩ := HX.out _ hZ; obtain ⟨r0, r1, r2, r3, r4, r5, g0, g1, g2, g3, g4, g5, zR⟩ := blk_h6 bmR; obtain ⟨m0, m1, m2, m3, m4, m5, _, _, _, _, _, _, zN⟩ := blk_h6 bmN))
      refine bodyPost_ret (v := .tuple #[.agg #[.string ⟨#[]⟩, .string ⟨#[]⟩, .string ⟨#[]⟩, .int .i64 0, .slice none 0 0, .slice none 0 0], .int .i64 31]) (by simp [results, Tryz.results68, go_sem, r0, r1, r2, r3, r4, r5]) rfl ?_
      exact ⟨_, _, by (rw [HR.out]; rfl), by (rw [HR.out]; exact .inl ⟨⟨_, _, rfl⟩, rfl⟩), by (rw [HR.out]; exact .inl ⟨⟨_, _, rfl⟩, rfl⟩), Fresh.nil _ _ _, Fresh.nil _ _ _, ((((((hBB.setCell (Nat.le_refl _) _).setCell (Nat.le_refl _) _).setCell (Nat.le_refl _) _).setCell (Nat.le_refl _) _).setCell (Nat.le_refl _) _).setCell (Nat.le_refl _) _)⟩
  · have hb0 : UN.size ≠ 0 := fun h => hb (.inl h)
    have hb1 : ¬ 64 < UN.size := fun h => hb (.inr h)
    clear hb
    have pE := ne_empty hb0
    have pF := isEmpty_f hb0
    obtain ⟨TT, hTT⟩ : ∃ x, x = bs ub := ⟨_, rfl⟩
    rw [← hTT] at HCT2
    have hTTl : TT.size ≤ 4294967280 := by rw [hTT, size_bs]; omega
    have HTTu := Lib.hid (show us TT = ub by rw [hTT, us_bs])
    clear hTT
    go_upto_region 13 with (first | (go_at_call 125; ((with_reducible refine (HHA.out _).mono ?_); rintro e wx ⟨rfl, rfl⟩)) | (go_at_call 122; ((with_reducible refine (HCT2.out _).mono ?_); rintro e w4 ⟨rfl, hD⟩); have hZ := hZ.trans (hD.below (B := w0.heap.size)); obtain ⟨bmR, bmN, hBB⟩ := HX.out _ hZ; obtain ⟨r0, r1, r2, r3, r4, r5, g0, g1, g2, g3, g4, g5, zR⟩ := blk_h6 bmR; obtain ⟨m0, m1, m2, m3, m4, m5, _, _, _, _, _, _, zN⟩ := blk_h6 bmN) | (go_at_call 126; ((with_reducible refine (HPL.out _).mono ?_); rintro e w5 ⟨rfl, hC5⟩); have hZ := hZ.trans (hC5.mono hZ.size); obtain ⟨bmR, bmN, hBB⟩ := HX.out _ hZ; obtain ⟨r0, r1, r2, r3, r4, r5, g0, g1, g2, g3, g4, g5, zR⟩ := blk_h6 bmR; obtain ⟨m0, m1, m2, m3, m4, m5, _, _, _, _, _, _, zN⟩ := blk_h6 bmN))
    have HCT3 := Lib.hid (fun wx => cutR_c TT (by omega) 63 wx)
    rw [show (((63 : UInt8).toNat : Nat) : Int) = 63 from rfl] at HCT3
    rw [HTTu.out] at HCT3
    have hcl3 := cutb_le 63 ub
    obtain ⟨x, xs, hxs⟩ : ∃ x xs, splitc 59 (cutb 63 ub).1 = x :: xs := ⟨_, _, splitc_cut 59 _⟩
    have hc3 := parseU3_cases sc un ub x xs hxs
    rw [← hR] at hc3
    have hbx : ∀ p ∈ x :: xs, p.length ≤ 4294967280 := by rw [← hxs]; intro p hp; have := splitc_bd 59 _ p hp; omega
    have hln : (x :: xs).length ≤ 4294967281 := by rw [← hxs]; have := splitc_len 59 (cutb 63 ub).1; omega
    obtain ⟨q, hq⟩ : ∃ q, q = cutb 63 ub := ⟨_, rfl⟩
    rw [← hq] at HCT3 hcl3 hc3 hxs
    clear hq hR
    obtain ⟨fr, bk, asked⟩ := q
    dsimp only at HCT3 hcl3 hc3 hxs
    have HSP := Lib.hid (fun wx => splitR_c (bs fr) (by rw [size_bs]; omega) 59 wx)
    rw [show (((59 : UInt8).toNat : Nat) : Int) = 59 from rfl] at HSP
    rw [us_bs, hxs] at HSP
    have HSP2 := Lib.hid (fun wx => splitR_c (bs bk) (by rw [size_bs]; omega) 38 wx)
    rw [show (((38 : UInt8).toNat : Nat) : Int) = 38 from rfl] at HSP2
    rw [us_bs] at HSP2
    have hxl := hbx x (List.mem_cons_self ..)
    have HWH := Lib.hid (fun wx => whereR_c (bs x) (by rw [size_bs]; omega) wx)
    rw [us_bs] at HWH
    have hwo := where_ok x
    have HRD1 := Lib.hid (fun wx v hv => readR_c v xs ⟨#[91, 93, 47, 58, 38, 43, 36]⟩ (by decide) wx hv (fun p hp => hbx p (List.mem_cons_of_mem _ hp)) (by rw [List.length_cons] at hln; omega))
    rw [show us ⟨#[91, 93, 47, 58, 38, 43, 36]⟩ = kParams from rfl] at HRD1
    have HRD2 := Lib.hid (fun wx v hv => readR_c v (splitc 38 bk) ⟨#[91, 93, 47, 63, 58, 43, 36]⟩ (by decide) wx hv (fun p hp => by have := splitc_bd 38 _ p hp; omega) (by have := splitc_len 38 bk; omega))
    rw [show us ⟨#[91, 93, 47, 63, 58, 43, 36]⟩ = kHeaders from rfl] at HRD2
    have hpb1 := readP_bd kParams xs 4294967280 (fun p hp => hbx p (List.mem_cons_of_mem _ hp))
    have hpb2 := readP_bd kHeaders (splitc 38 bk) 4294967280 (fun p hp => by have := splitc_bd 38 _ p hp; omega)
    unfold ReadPost at HRD1 HRD2
    obtain ⟨W, hW⟩ : ∃ W, W = whereS x := ⟨_, rfl⟩
    obtain ⟨P1, hP1⟩ : ∃ W, W = optP (readGo kParams xs) := ⟨_, rfl⟩
    obtain ⟨P2, hP2⟩ : ∃ W, W = optP (readGo kHeaders (splitc 38 bk)) := ⟨_, rfl⟩
    rw [← hW] at HWH hc3 hwo
    rw [← hP1] at HRD1 hc3 hpb1
    rw [← hP2] at HRD2 hc3 hpb2
    clear hW hP1 hP2 hxs hln hbx hcl3 hxl
    obtain ⟨⟨hl, p⟩, we⟩ := W
    obtain ⟨PL, pok⟩ := P1
    obtain ⟨HL2, hok2⟩ := P2
    dsimp only at HWH hc3 hwo HRD1 HRD2 hpb1 hpb2
    have HPB1 := Lib.hid hpb1
    have HPB2 := Lib.hid hpb2
    obtain ⟨HH, hHH⟩ : ∃ H, H = bs hl := ⟨_, rfl⟩
    rw [← hHH] at HWH
    have HHHu := Lib.hid (show us HH = hl by rw [hHH, us_bs])
    have HHHl := Lib.hid (show HH.size = hl.length by rw [hHH, size_bs])
    clear hHH hpb1 hpb2
    have HWO := Lib.hid hwo
    clear hwo
    rcases hc3 with ⟨hw, hR⟩ | ⟨rfl, rfl, hR⟩ | ⟨rfl, rfl, rfl, rfl, hR⟩ | ⟨rfl, rfl, rfl, hR⟩ | ⟨rfl, rfl, rfl, rfl, hR⟩
    · have HR := Lib.hid hR
      have t7 : (we != 0) = true := by simpa using hw
      clear hR hw
      go_wp2_with (first | (go_at_call 122; ((with_reducible refine (HCT3.out _).mono ?_); rintro e w6 ⟨rfl, hD⟩); have hZ := hZ.trans (hD.below (B := w0.heap.size)); obtain ⟨bmR, bmN, hBB⟩ := HX.out _ hZ; obtain ⟨r0, r1, r2, r3, r4, r5, g0, g1, g2, g3, g4, g5, zR⟩ := blk_h6 bmR; obtain ⟨m0, m1, m2, m3, m4, m5, _, _, _, _, _, _, zN⟩ := blk_h6 bmN) | (go_at_call 127; ((with_reducible refine (HSP.out _).mono ?_); rintro e w7 ⟨v, rfl, hv, hC7⟩); have hZ := hZ.trans (hC7.mono hZ.size); obtain ⟨bmR, bmN, hBB⟩ := HX.out _ hZ; obtain ⟨r0, r1, r2, r3, r4, r5, g0, g1, g2, g3, g4, g5, zR⟩ := blk_h6 bmR; obtain ⟨m0, m1, m2, m3, m4, m5, _, _, _, _, _, _, zN⟩ := blk_h6 bmN; have HV := Lib.hid hv; obtain ⟨ao, cap, rfl, hm1, c1⟩ := hv.form; obtain ⟨b, off, rfl, hb1, hc1⟩ := c1 (by simp); have x0 := hc1 0 (by simp); rw [Nat.add_zero] at x0; have k1 : (0 : Int) < ((x :: xs).length : Int) := (by simp); clear hc1 c1 hv; unfold maxLen at hm1) | (go_at_call 128; ((with_reducible refine (HWH.out _).mono ?_); rintro e w8 ⟨rfl, hC8⟩); have hZ := hZ.trans (hC8.mono hZ.size); obtain ⟨bmR, bmN, hBB⟩ := HX.out _ hZ; obtain ⟨r0, r1, r2, r3, r4, r5, g0, g1, g2, g3, g4, g5, zR⟩ := blk_h6 bmR; obtain ⟨m0, m1, m2, m3, m4, m5, _, _, _, _, _, _, zN⟩ := blk_h6 bmN; have HV := Lib.hid (HV.out.below hC8 (Nat.le_refl _))) | (go_at_call 129; ((with_reducible refine (HRD1.out _ _ (by first | exact HV.out.tailB | exact HV.out.tailA (by first | assumption | omega))).mono ?_); rintro e w9 ⟨u1, rfl, hu1, hF1, hC9⟩); have hF1 := hF1.mono (show w.heap.size + 2 ≤ _ from HS2.out ▸ hZ.size); have hZ := hZ.trans (hC9.mono hZ.size); obtain ⟨bmR, bmN, hBB⟩ := HX.out _ hZ; obtain ⟨r0, r1, r2, r3, r4, r5, g0, g1, g2, g3, g4, g5, zR⟩ := blk_h6 bmR; obtain ⟨m0, m1, m2, m3, m4, m5, _, _, _, _, _, _, zN⟩ := blk_h6 bmN; obtain ⟨ao1, cp1, rfl, _, _⟩ := hu1.form; have HU1 := Lib.hid hu1; have HF1 := Lib.hid hF1; clear hu1 hF1) | (go_at_call 127; ((with_reducible refine (HSP2.out _).mono ?_); rintro e w10 ⟨v2, rfl, hv2, hC10⟩); have HU1 := Lib.hid (HU1.out.below hC10 (Nat.le_refl _)); have hZ := hZ.trans (hC10.mono hZ.size); obtain ⟨bmR, bmN, hBB⟩ := HX.out _ hZ; obtain ⟨r0, r1, r2, r3, r4, r5, g0, g1, g2, g3, g4, g5, zR⟩ := blk_h6 bmR; obtain ⟨m0, m1, m2, m3, m4, m5, _, _, _, _, _, _, zN⟩ := blk_h6 bmN) | (go_at_call 129; ((with_reducible refine (HRD2.out _ _ hv2).mono ?_); rintro e w11 ⟨u2, rfl, hu2, hF2, hC11⟩); have hF2 := hF2.mono (show w.heap.size + 2 ≤ _ from HS2.out ▸ hZ.size); have HU1 := Lib.hid (HU1.out.below hC11 (Nat.le_refl _)); have hZ := hZ.trans (hC11.mono hZ.size); obtain ⟨bmR, bmN, hBB⟩ := HX.out _ hZ; obtain ⟨r0, r1, r2, r3, r4, r5, g0, g1, g2, g3, g4, g5, zR⟩ := blk_h6 bmR; obtain ⟨m0, m1, m2, m3, m4, m5, _, _, _, _, _, _, zN⟩ := blk_h6 bmN; obtain ⟨ao2, cp2, rfl, _, _⟩ := hu2.form; have HU2 := Lib.hid hu2; have HF2 := Lib.hid hF2; clear hu2 hF2))
      refine bodyPost_ret (v := .tuple #[.agg #[.string ⟨#[]⟩, .string ⟨#[]⟩, .string ⟨#[]⟩, .int .i64 0, .slice none 0 0, .slice none 0 0], .int .i64 we]) (by simp [results, Tryz.results68, go_sem, r0, r1, r2, r3, r4, r5]) rfl ?_
      exact ⟨_, _, by (rw [HR.out]; rfl), by (rw [HR.out]; exact .inl ⟨⟨_, _, rfl⟩, rfl⟩), by (rw [HR.out]; exact .inl ⟨⟨_, _, rfl⟩, rfl⟩), Fresh.nil _ _ _, Fresh.nil _ _ _, ((((((hBB.setCell (Nat.le_refl _) _).setCell (Nat.le_refl _) _).setCell (Nat.le_refl _) _).setCell (Nat.le_refl _) _).setCell (Nat.le_refl _) _).setCell (Nat.le_refl _) _)⟩
    · have HR := Lib.hid hR
      clear hR
      cases asked
      all_goals
        go_wp2_with (first | (go_at_call 122; ((with_reducible refine (HCT3.out _).mono ?_); rintro e w6 ⟨rfl, hD⟩); have hZ := hZ.trans (hD.below (B := w0.heap.size)); obtain ⟨bmR, bmN, hBB⟩ := HX.out _ hZ; obtain ⟨r0, r1, r2, r3, r4, r5, g0, g1, g2, g3, g4, g5, zR⟩ := blk_h6 bmR; obtain ⟨m0, m1, m2, m3, m4, m5, _, _, _, _, _, _, zN⟩ := blk_h6 bmN) | (go_at_call 127; ((with_reducible refine (HSP.out _).mono ?_); rintro e w7 ⟨v, rfl, hv, hC7⟩); have hZ := hZ.trans (hC7.mono hZ.size); obtain ⟨bmR, bmN, hBB⟩ := HX.out _ hZ; obtain ⟨r0, r1, r2, r3, r4, r5, g0, g1, g2, g3, g4, g5, zR⟩ := blk_h6 bmR; obtain ⟨m0, m1, m2, m3, m4, m5, _, _, _, _, _, _, zN⟩ := blk_h6 bmN; have HV := Lib.hid hv; obtain ⟨ao, cap, rfl, hm1, c1⟩ := hv.form; obtain ⟨b, off, rfl, hb1, hc1⟩ := c1 (by simp); have x0 := hc1 0 (by simp); rw [Nat.add_zero] at x0; have k1 : (0 : Int) < ((x :: xs).length : Int) := (by simp); clear hc1 c1 hv; unfold maxLen at hm1) | (go_at_call 128; ((with_reducible refine (HWH.out _).mono ?_); rintro e w8 ⟨rfl, hC8⟩); have hZ := hZ.trans (hC8.mono hZ.size); obtain ⟨bmR, bmN, hBB⟩ := HX.out _ hZ; obtain ⟨r0, r1, r2, r3, r4, r5, g0, g1, g2, g3, g4, g5, zR⟩ := blk_h6 bmR; obtain ⟨m0, m1, m2, m3, m4, m5, _, _, _, _, _, _, zN⟩ := blk_h6 bmN; have HV := Lib.hid (HV.out.below hC8 (Nat.le_refl _))) | (go_at_call 129; ((with_reducible refine (HRD1.out _ _ (by first | exact HV.out.tailB | exact HV.out.tailA (by first | assumption | omega))).mono ?_); rintro e w9 ⟨u1, rfl, hu1, hF1, hC9⟩); have hF1 := hF1.mono (show w.heap.size + 2 ≤ _ from HS2.out ▸ hZ.size); have hZ := hZ.trans (hC9.mono hZ.size); obtain ⟨bmR, bmN, hBB⟩ := HX.out _ hZ; obtain ⟨r0, r1, r2, r3, r4, r5, g0, g1, g2, g3, g4, g5, zR⟩ := blk_h6 bmR; obtain ⟨m0, m1, m2, m3, m4, m5, _, _, _, _, _, _, zN⟩ := blk_h6 bmN; obtain ⟨ao1, cp1, rfl, _, _⟩ := hu1.form; have HU1 := Lib.hid hu1; have HF1 := Lib.hid hF1; clear hu1 hF1) | (go_at_call 127; ((with_reducible refine (HSP2.out _).mono ?_); rintro e w10 ⟨v2, rfl, hv2, hC10⟩); have HU1 := Lib.hid (HU1.out.below hC10 (Nat.le_refl _)); have hZ := hZ.trans (hC10.mono hZ.size); obtain ⟨bmR, bmN, hBB⟩ := HX.out _ hZ; obtain ⟨r0, r1, r2, r3, r4, r5, g0, g1, g2, g3, g4, g5, zR⟩ := blk_h6 bmR; obtain ⟨m0, m1, m2, m3, m4, m5, _, _, _, _, _, _, zN⟩ := blk_h6 bmN) | (go_at_call 129; ((with_reducible refine (HRD2.out _ _ hv2).mono ?_); rintro e w11 ⟨u2, rfl, hu2, hF2, hC11⟩); have hF2 := hF2.mono (show w.heap.size + 2 ≤ _ from HS2.out ▸ hZ.size); have HU1 := Lib.hid (HU1.out.below hC11 (Nat.le_refl _)); have hZ := hZ.trans (hC11.mono hZ.size); obtain ⟨bmR, bmN, hBB⟩ := HX.out _ hZ; obtain ⟨r0, r1, r2, r3, r4, r5, g0, g1, g2, g3, g4, g5, zR⟩ := blk_h6 bmR; obtain ⟨m0, m1, m2, m3, m4, m5, _, _, _, _, _, _, zN⟩ := blk_h6 bmN; obtain ⟨ao2, cp2, rfl, _, _⟩ := hu2.form; have HU2 := Lib.hid hu2; have HF2 := Lib.hid hF2; clear hu2 hF2))
        all_goals
          refine bodyPost_ret (v := .tuple #[.agg #[.string ⟨#[]⟩, .string ⟨#[]⟩, .string ⟨#[]⟩, .int .i64 0, .slice none 0 0, .slice none 0 0], .int .i64 34]) (by simp [results, Tryz.results68, go_sem, r0, r1, r2, r3, r4, r5]) rfl ?_
          exact ⟨_, _, by (rw [HR.out]; rfl), by (rw [HR.out]; exact .inl ⟨⟨_, _, rfl⟩, rfl⟩), by (rw [HR.out]; exact .inl ⟨⟨_, _, rfl⟩, rfl⟩), Fresh.nil _ _ _, Fresh.nil _ _ _, ((((((hBB.setCell (Nat.le_refl _) _).setCell (Nat.le_refl _) _).setCell (Nat.le_refl _) _).setCell (Nat.le_refl _) _).setCell (Nat.le_refl _) _).setCell (Nat.le_refl _) _)⟩
    · have HR := Lib.hid hR
      clear hR
      go_wp2_with (first | (go_at_call 122; ((with_reducible refine (HCT3.out _).mono ?_); rintro e w6 ⟨rfl, hD⟩); have hZ := hZ.trans (hD.below (B := w0.heap.size)); obtain ⟨bmR, bmN, hBB⟩ := HX.out _ hZ; obtain ⟨r0, r1, r2, r3, r4, r5, g0, g1, g2, g3, g4, g5, zR⟩ := blk_h6 bmR; obtain ⟨m0, m1, m2, m3, m4, m5, _, _, _, _, _, _, zN⟩ := blk_h6 bmN) | (go_at_call 127; ((with_reducible refine (HSP.out _).mono ?_); rintro e w7 ⟨v, rfl, hv, hC7⟩); have hZ := hZ.trans (hC7.mono hZ.size); obtain ⟨bmR, bmN, hBB⟩ := HX.out _ hZ; obtain ⟨r0, r1, r2, r3, r4, r5, g0, g1, g2, g3, g4, g5, zR⟩ := blk_h6 bmR; obtain ⟨m0, m1, m2, m3, m4, m5, _, _, _, _, _, _, zN⟩ := blk_h6 bmN; have HV := Lib.hid hv; obtain ⟨ao, cap, rfl, hm1, c1⟩ := hv.form; obtain ⟨b, off, rfl, hb1, hc1⟩ := c1 (by simp); have x0 := hc1 0 (by simp); rw [Nat.add_zero] at x0; have k1 : (0 : Int) < ((x :: xs).length : Int) := (by simp); clear hc1 c1 hv; unfold maxLen at hm1) | (go_at_call 128; ((with_reducible refine (HWH.out _).mono ?_); rintro e w8 ⟨rfl, hC8⟩); have hZ := hZ.trans (hC8.mono hZ.size); obtain ⟨bmR, bmN, hBB⟩ := HX.out _ hZ; obtain ⟨r0, r1, r2, r3, r4, r5, g0, g1, g2, g3, g4, g5, zR⟩ := blk_h6 bmR; obtain ⟨m0, m1, m2, m3, m4, m5, _, _, _, _, _, _, zN⟩ := blk_h6 bmN; have HV := Lib.hid (HV.out.below hC8 (Nat.le_refl _))) | (go_at_call 129; ((with_reducible refine (HRD1.out _ _ (by first | exact HV.out.tailB | exact HV.out.tailA (by first | assumption | omega))).mono ?_); rintro e w9 ⟨u1, rfl, hu1, hF1, hC9⟩); have hF1 := hF1.mono (show w.heap.size + 2 ≤ _ from HS2.out ▸ hZ.size); have hZ := hZ.trans (hC9.mono hZ.size); obtain ⟨bmR, bmN, hBB⟩ := HX.out _ hZ; obtain ⟨r0, r1, r2, r3, r4, r5, g0, g1, g2, g3, g4, g5, zR⟩ := blk_h6 bmR; obtain ⟨m0, m1, m2, m3, m4, m5, _, _, _, _, _, _, zN⟩ := blk_h6 bmN; obtain ⟨ao1, cp1, rfl, _, _⟩ := hu1.form; have HU1 := Lib.hid hu1; have HF1 := Lib.hid hF1; clear hu1 hF1) | (go_at_call 127; ((with_reducible refine (HSP2.out _).mono ?_); rintro e w10 ⟨v2, rfl, hv2, hC10⟩); have HU1 := Lib.hid (HU1.out.below hC10 (Nat.le_refl _)); have hZ := hZ.trans (hC10.mono hZ.size); obtain ⟨bmR, bmN, hBB⟩ := HX.out _ hZ; obtain ⟨r0, r1, r2, r3, r4, r5, g0, g1, g2, g3, g4, g5, zR⟩ := blk_h6 bmR; obtain ⟨m0, m1, m2, m3, m4, m5, _, _, _, _, _, _, zN⟩ := blk_h6 bmN) | (go_at_call 129; ((with_reducible refine (HRD2.out _ _ hv2).mono ?_); rintro e w11 ⟨u2, rfl, hu2, hF2, hC11⟩); have hF2 := hF2.mono (show w.heap.size + 2 ≤ _ from HS2.out ▸ hZ.size); have HU1 := Lib.hid (HU1.out.below hC11 (Nat.le_refl _)); have hZ := hZ.trans (hC11.mono hZ.size); obtain ⟨bmR, bmN, hBB⟩ := HX.out _ hZ; obtain ⟨r0, r1, r2, r3, r4, r5, g0, g1, g2, g3, g4, g5, zR⟩ := blk_h6 bmR; obtain ⟨m0, m1, m2, m3, m4, m5, _, _, _, _, _, _, zN⟩ := blk_h6 bmN; obtain ⟨ao2, cp2, rfl, _, _⟩ := hu2.form; have HU2 := Lib.hid hu2; have HF2 := Lib.hid hF2; clear hu2 hF2))
      all_goals
        refine bodyPost_ret (v := .tuple #[.agg #[.string ⟨#[]⟩, .string ⟨#[]⟩, .string ⟨#[]⟩, .int .i64 0, .slice none 0 0, .slice none 0 0], .int .i64 34]) (by simp [results, Tryz.results68, go_sem, r0, r1, r2, r3, r4, r5]) rfl ?_
        exact ⟨_, _, by (rw [HR.out]; rfl), by (rw [HR.out]; exact .inl ⟨⟨_, _, rfl⟩, rfl⟩), by (rw [HR.out]; exact .inl ⟨⟨_, _, rfl⟩, rfl⟩), Fresh.nil _ _ _, Fresh.nil _ _ _, ((((((hBB.setCell (Nat.le_refl _) _).setCell (Nat.le_refl _) _).setCell (Nat.le_refl _) _).setCell (Nat.le_refl _) _).setCell (Nat.le_refl _) _).setCell (Nat.le_refl _) _)⟩
    · have HSV := Lib.hid (show sv sc = .string SC by rw [← HSCu.out]; simp [sv])
      have HUV := Lib.hid (show sv un = .string UN by first | rfl | (have h := HUNu.out; rw [← h]; simp [sv]))
      have HHV := Lib.hid (show sv hl = .string HH by rw [← HHHu.out]; simp [sv])
      have HU0 := Lib.hid (fun (wx : World) => (show RPrms wx (.slice none 0 0) [] from .inl ⟨⟨_, _, rfl⟩, rfl⟩))
      obtain ⟨w1', w2', w3'⟩ := HWO.out rfl
      have hH64 := (host_low _ w1').2.2
      rw [← HHHl.out] at hH64
      have HCK := Lib.hid (fun wx u1 u2 h1 h2 => checkUR_c SC UN HH p u1 u2 PL [] hSCl (by omega) wx h1 h2 HPB1.out (fun p hp => by cases hp))
      rw [HSCu.out, HUNu.out, HHHu.out] at HCK
      obtain ⟨C, hC⟩ : ∃ C, C = checkU ⟨sc, un, hl, p, PL, []⟩ := ⟨_, rfl⟩
      unfold endU at hR
      rw [← hC] at HCK hR
      clear hC w1' w2' w3' hH64
      go_upto_region 26 with (first | (go_at_call 122; ((with_reducible refine (HCT3.out _).mono ?_); rintro e w6 ⟨rfl, hD⟩); have hZ := hZ.trans (hD.below (B := w0.heap.size)); obtain ⟨bmR, bmN, hBB⟩ := HX.out _ hZ; obtain ⟨r0, r1, r2, r3, r4, r5, g0, g1, g2, g3, g4, g5, zR⟩ := blk_h6 bmR; obtain ⟨m0, m1, m2, m3, m4, m5, _, _, _, _, _, _, zN⟩ := blk_h6 bmN) | (go_at_call 127; ((with_reducible refine (HSP.out _).mono ?_); rintro e w7 ⟨v, rfl, hv, hC7⟩); have hZ := hZ.trans (hC7.mono hZ.size); obtain ⟨bmR, bmN, hBB⟩ := HX.out _ hZ; obtain ⟨r0, r1, r2, r3, r4, r5, g0, g1, g2, g3, g4, g5, zR⟩ := blk_h6 bmR; obtain ⟨m0, m1, m2, m3, m4, m5, _, _, _, _, _, _, zN⟩ := blk_h6 bmN; have HV := Lib.hid hv; obtain ⟨ao, cap, rfl, hm1, c1⟩ := hv.form; obtain ⟨b, off, rfl, hb1, hc1⟩ := c1 (by simp); have x0 := hc1 0 (by simp); rw [Nat.add_zero] at x0; have k1 : (0 : Int) < ((x :: xs).length : Int) := (by simp); clear hc1 c1 hv; unfold maxLen at hm1) | (go_at_call 128; ((with_reducible refine (HWH.out _).mono ?_); rintro e w8 ⟨rfl, hC8⟩); have hZ := hZ.trans (hC8.mono hZ.size); obtain ⟨bmR, bmN, hBB⟩ := HX.out _ hZ; obtain ⟨r0, r1, r2, r3, r4, r5, g0, g1, g2, g3, g4, g5, zR⟩ := blk_h6 bmR; obtain ⟨m0, m1, m2, m3, m4, m5, _, _, _, _, _, _, zN⟩ := blk_h6 bmN; have HV := Lib.hid (HV.out.below hC8 (Nat.le_refl _))) | (go_at_call 129; ((with_reducible refine (HRD1.out _ _ (by first | exact HV.out.tailB | exact HV.out.tailA (by first | assumption | omega))).mono ?_); rintro e w9 ⟨u1, rfl, hu1, hF1, hC9⟩); have hF1 := hF1.mono (show w.heap.size + 2 ≤ _ from HS2.out ▸ hZ.size); have hZ := hZ.trans (hC9.mono hZ.size); obtain ⟨bmR, bmN, hBB⟩ := HX.out _ hZ; obtain ⟨r0, r1, r2, r3, r4, r5, g0, g1, g2, g3, g4, g5, zR⟩ := blk_h6 bmR; obtain ⟨m0, m1, m2, m3, m4, m5, _, _, _, _, _, _, zN⟩ := blk_h6 bmN; obtain ⟨ao1, cp1, rfl, _, _⟩ := hu1.form; have HU1 := Lib.hid hu1; have HF1 := Lib.hid hF1; clear hu1 hF1) | (go_at_call 127; ((with_reducible refine (HSP2.out _).mono ?_); rintro e w10 ⟨v2, rfl, hv2, hC10⟩); have HU1 := Lib.hid (HU1.out.below hC10 (Nat.le_refl _)); have hZ := hZ.trans (hC10.mono hZ.size); obtain ⟨bmR, bmN, hBB⟩ := HX.out _ hZ; obtain ⟨r0, r1, r2, r3, r4, r5, g0, g1, g2, g3, g4, g5, zR⟩ := blk_h6 bmR; obtain ⟨m0, m1, m2, m3, m4, m5, _, _, _, _, _, _, zN⟩ := blk_h6 bmN) | (go_at_call 129; ((with_reducible refine (HRD2.out _ _ hv2).mono ?_); rintro e w11 ⟨u2, rfl, hu2, hF2, hC11⟩); have hF2 := hF2.mono (show w.heap.size + 2 ≤ _ from HS2.out ▸ hZ.size); have HU1 := Lib.hid (HU1.out.below hC11 (Nat.le_refl _)); have hZ := hZ.trans (hC11.mono hZ.size); obtain ⟨bmR, bmN, hBB⟩ := HX.out _ hZ; obtain ⟨r0, r1, r2, r3, r4, r5, g0, g1, g2, g3, g4, g5, zR⟩ := blk_h6 bmR; obtain ⟨m0, m1, m2, m3, m4, m5, _, _, _, _, _, _, zN⟩ := blk_h6 bmN; obtain ⟨ao2, cp2, rfl, _, _⟩ := hu2.form; have HU2 := Lib.hid hu2; have HF2 := Lib.hid hF2; clear hu2 hF2))
      all_goals
        have hA := hZ.alloc hZ.size (.cells #[.string SC, .string UN, .string HH, .int .i64 p, .slice ao1 PL.length cp1, (.slice none 0 0)] 24)
        have bx := Blk.new w9 24 #[.string SC, .string UN, .string HH, .int .i64 p, .slice ao1 PL.length cp1, (.slice none 0 0)]
        have ha1 := HU1.out.below ((Below.refl w9.heap.size w9).alloc (Nat.le_refl _) (.cells #[.string SC, .string UN, .string HH, .int .i64 p, .slice ao1 PL.length cp1, (.slice none 0 0)] 24)) (Nat.le_refl _)
        have ha2 := (HU0.out w9).below ((Below.refl w9.heap.size w9).alloc (Nat.le_refl _) (.cells #[.string SC, .string UN, .string HH, .int .i64 p, .slice ao1 PL.length cp1, (.slice none 0 0)] 24)) (Nat.le_refl _)
        clear r0 r1 r2 r3 r4 r5 g0 g1 g2 g3 g4 g5 m0 m1 m2 m3 m4 m5
        obtain ⟨wu, hwu⟩ : ∃ x, x = w9.alloc (.cells #[.string SC, .string UN, .string HH, .int .i64 p, .slice ao1 PL.length cp1, (.slice none 0 0)] 24) := ⟨_, rfl⟩
        rw [← hwu] at hA bx ha1 ha2
        have HWU := Lib.hid hwu
        clear hwu
        have HA1 := Lib.hid ha1
        have HA2 := Lib.hid ha2
        clear ha1 ha2
        have zU : w9.heap.size < wu.heap.size := bx.lt
        have HZL := Lib.hid (hZ.size : w0.heap.size ≤ w9.heap.size)
        have hZ := hA
        obtain ⟨bmR, bmN, hBB⟩ := HX.out _ hZ
        obtain ⟨r0, r1, r2, r3, r4, r5, g0, g1, g2, g3, g4, g5, zR⟩ := blk_h6 bmR
        obtain ⟨m0, m1, m2, m3, m4, m5, _, _, _, _, _, _, zN⟩ := blk_h6 bmN
        obtain ⟨y0, y1, y2, y3, y4, y5⟩ := blk_f6 bx
        by_cases hc0 : C = 0
        · subst hc0
          rw [if_pos rfl] at hR
          have HR := Lib.hid hR
          clear hR
          go_wp2_with (go_at_call 119; (try rw [← HWU.out]); ((with_reducible refine (HCK.out _ _ _ HA1.out HA2.out).mono ?_); rintro e w12 ⟨rfl, hC12⟩); have bx := bx.call hC12; have HA1 := Lib.hid (HA1.out.below hC12 (Nat.le_refl _)); have HA2 := Lib.hid (HA2.out.below hC12 (Nat.le_refl _)); have zU := Nat.lt_of_lt_of_le zU hC12.size; have hZ := hZ.trans (hC12.mono hZ.size); obtain ⟨bmR, bmN, hBB⟩ := HX.out _ hZ; obtain ⟨r0, r1, r2, r3, r4, r5, g0, g1, g2, g3, g4, g5, zR⟩ := blk_h6 bmR; obtain ⟨m0, m1, m2, m3, m4, m5, _, _, _, _, _, _, zN⟩ := blk_h6 bmN; obtain ⟨y0, y1, y2, y3, y4, y5⟩ := blk_f6 bx)
          refine bodyPost_ret (v := .tuple #[.agg #[.string SC, .string UN, .string HH, .int .i64 p, .slice ao1 PL.length cp1, (.slice none 0 0)], .int .i64 0]) (by simp [results, Tryz.results68, go_sem, r0, r1, r2, r3, r4, r5]) rfl ?_
          exact ⟨_, _, by (rw [HR.out]; show _ = Ending.returned (.tuple #[.agg #[sv sc, sv un, sv hl, .int .i64 p, _, _], .int .i64 0]); rw [HSV.out, HUV.out, HHV.out]), (by rw [HR.out]; exact (RPrms.set (RPrms.set (RPrms.set (RPrms.set (RPrms.set (RPrms.set HA1.out HF1.out (p := ⟨w.heap.size, 0, none⟩) (show w.heap.size < w.heap.size + 2 by omega) _) HF1.out (p := ⟨w.heap.size, 1, none⟩) (show w.heap.size < w.heap.size + 2 by omega) _) HF1.out (p := ⟨w.heap.size, 2, none⟩) (show w.heap.size < w.heap.size + 2 by omega) _) HF1.out (p := ⟨w.heap.size, 3, none⟩) (show w.heap.size < w.heap.size + 2 by omega) _) HF1.out (p := ⟨w.heap.size, 4, none⟩) (show w.heap.size < w.heap.size + 2 by omega) _) HF1.out (p := ⟨w.heap.size, 5, none⟩) (show w.heap.size < w.heap.size + 2 by omega) _)), (by rw [HR.out]; exact .inl ⟨⟨_, _, rfl⟩, rfl⟩), HF1.out.mono (by omega), Fresh.nil _ _ _, ((((((hBB.setCell (Nat.le_refl _) _).setCell (Nat.le_refl _) _).setCell (Nat.le_refl _) _).setCell (Nat.le_refl _) _).setCell (Nat.le_refl _) _).setCell (Nat.le_refl _) _)⟩
        · rw [if_neg hc0] at hR
          have HR := Lib.hid hR
          have t9 : (C != 0) = true := by simpa using hc0
          clear hR hc0
          go_wp2_with (go_at_call 119; (try rw [← HWU.out]); ((with_reducible refine (HCK.out _ _ _ HA1.out HA2.out).mono ?_); rintro e w12 ⟨rfl, hC12⟩); have bx := bx.call hC12; have HA1 := Lib.hid (HA1.out.below hC12 (Nat.le_refl _)); have HA2 := Lib.hid (HA2.out.below hC12 (Nat.le_refl _)); have zU := Nat.lt_of_lt_of_le zU hC12.size; have hZ := hZ.trans (hC12.mono hZ.size); obtain ⟨bmR, bmN, hBB⟩ := HX.out _ hZ; obtain ⟨r0, r1, r2, r3, r4, r5, g0, g1, g2, g3, g4, g5, zR⟩ := blk_h6 bmR; obtain ⟨m0, m1, m2, m3, m4, m5, _, _, _, _, _, _, zN⟩ := blk_h6 bmN; obtain ⟨y0, y1, y2, y3, y4, y5⟩ := blk_f6 bx)
          have zW : w.heap.size + 2 ≤ w9.heap.size := by have := HZL.out; have h2 := HS2.out; omega
          have KC := Lib.hid (fun (wx w' : World) (h : wx.cell? ⟨w.heap.size + 1, 0, none⟩ = some (.string ⟨#[]⟩) ∧ wx.cell? ⟨w.heap.size + 1, 1, none⟩ = some (.string ⟨#[]⟩) ∧ wx.cell? ⟨w.heap.size + 1, 2, none⟩ = some (.string ⟨#[]⟩) ∧ wx.cell? ⟨w.heap.size + 1, 3, none⟩ = some (.int .i64 0) ∧ wx.cell? ⟨w.heap.size + 1, 4, none⟩ = some (.slice none 0 0) ∧ wx.cell? ⟨w.heap.size + 1, 5, none⟩ = some (.slice none 0 0) ∧ wx.cell? ⟨w9.heap.size, 0, none⟩ = some (.string SC) ∧ wx.cell? ⟨w9.heap.size, 1, none⟩ = some (.string UN) ∧ wx.cell? ⟨w9.heap.size, 2, none⟩ = some (.string HH) ∧ wx.cell? ⟨w9.heap.size, 3, none⟩ = some (.int .i64 p) ∧ wx.cell? ⟨w9.heap.size, 4, none⟩ = some (.slice ao1 PL.length cp1) ∧ wx.cell? ⟨w9.heap.size, 5, none⟩ = some (.slice none 0 0) ∧ wx.cell? ⟨w.heap.size, 0, none⟩ = some (.string ⟨#[]⟩) ∧ wx.cell? ⟨w.heap.size, 1, none⟩ = some (.string ⟨#[]⟩) ∧ wx.cell? ⟨w.heap.size, 2, none⟩ = some (.string ⟨#[]⟩) ∧ wx.cell? ⟨w.heap.size, 3, none⟩ = some (.int .i64 0) ∧ wx.cell? ⟨w.heap.size, 4, none⟩ = some (.slice none 0 0) ∧ wx.cell? ⟨w.heap.size, 5, none⟩ = some (.slice none 0 0) ∧ wx.frozen? ⟨w.heap.size, 0, none⟩ = false ∧ wx.frozen? ⟨w.heap.size, 1, none⟩ = false ∧ wx.frozen? ⟨w.heap.size, 2, none⟩ = false ∧ wx.frozen? ⟨w.heap.size, 3, none⟩ = false ∧ wx.frozen? ⟨w.heap.size, 4, none⟩ = false ∧ wx.frozen? ⟨w.heap.size, 5, none⟩ = false ∧ Blk wx w.heap.size 24 #[.string ⟨#[]⟩, .string ⟨#[]⟩, .string ⟨#[]⟩, .int .i64 0, .slice none 0 0, .slice none 0 0] ∧ RPrms wx (.slice ao1 PL.length cp1) PL ∧ RPrms wx (.slice none 0 0) [] ∧ Below w.heap.size w wx) (hC : Below wx.heap.size wx w') => (show w'.cell? ⟨w.heap.size + 1, 0, none⟩ = some (.string ⟨#[]⟩) ∧ w'.cell? ⟨w.heap.size + 1, 1, none⟩ = some (.string ⟨#[]⟩) ∧ w'.cell? ⟨w.heap.size + 1, 2, none⟩ = some (.string ⟨#[]⟩) ∧ w'.cell? ⟨w.heap.size + 1, 3, none⟩ = some (.int .i64 0) ∧ w'.cell? ⟨w.heap.size + 1, 4, none⟩ = some (.slice none 0 0) ∧ w'.cell? ⟨w.heap.size + 1, 5, none⟩ = some (.slice none 0 0) ∧ w'.cell? ⟨w9.heap.size, 0, none⟩ = some (.string SC) ∧ w'.cell? ⟨w9.heap.size, 1, none⟩ = some (.string UN) ∧ w'.cell? ⟨w9.heap.size, 2, none⟩ = some (.string HH) ∧ w'.cell? ⟨w9.heap.size, 3, none⟩ = some (.int .i64 p) ∧ w'.cell? ⟨w9.heap.size, 4, none⟩ = some (.slice ao1 PL.length cp1) ∧ w'.cell? ⟨w9.heap.size, 5, none⟩ = some (.slice none 0 0) ∧ w'.cell? ⟨w.heap.size, 0, none⟩ = some (.string ⟨#[]⟩) ∧ w'.cell? ⟨w.heap.size, 1, none⟩ = some (.string ⟨#[]⟩) ∧ w'.cell? ⟨w.heap.size, 2, none⟩ = some (.string ⟨#[]⟩) ∧ w'.cell? ⟨w.heap.size, 3, none⟩ = some (.int .i64 0) ∧ w'.cell? ⟨w.heap.size, 4, none⟩ = some (.slice none 0 0) ∧ w'.cell? ⟨w.heap.size, 5, none⟩ = some (.slice none 0 0) ∧ w'.frozen? ⟨w.heap.size, 0, none⟩ = false ∧ w'.frozen? ⟨w.heap.size, 1, none⟩ = false ∧ w'.frozen? ⟨w.heap.size, 2, none⟩ = false ∧ w'.frozen? ⟨w.heap.size, 3, none⟩ = false ∧ w'.frozen? ⟨w.heap.size, 4, none⟩ = false ∧ w'.frozen? ⟨w.heap.size, 5, none⟩ = false ∧ Blk w' w.heap.size 24 #[.string ⟨#[]⟩, .string ⟨#[]⟩, .string ⟨#[]⟩, .int .i64 0, .slice none 0 0, .slice none 0 0] ∧ RPrms w' (.slice ao1 PL.length cp1) PL ∧ RPrms w' (.slice none 0 0) [] ∧ Below w.heap.size w w' from by
            obtain ⟨h0, h1, h2, h3, h4, h5, h6, h7, h8, h9, h10, h11, _, _, _, _, _, _, _, _, _, _, _, _, hb, hr1, hr2, hB⟩ := h
            have nb := hb.call hC
            obtain ⟨b0, b1, b2, b3, b4, b5, b6, b7, b8, b9, b10, b11, _⟩ := blk_h6 nb
            exact ⟨(hC.cell (World.block_lt_of_cell? wx _ h0)).trans h0, (hC.cell (World.block_lt_of_cell? wx _ h1)).trans h1, (hC.cell (World.block_lt_of_cell? wx _ h2)).trans h2, (hC.cell (World.block_lt_of_cell? wx _ h3)).trans h3, (hC.cell (World.block_lt_of_cell? wx _ h4)).trans h4, (hC.cell (World.block_lt_of_cell? wx _ h5)).trans h5, (hC.cell (World.block_lt_of_cell? wx _ h6)).trans h6, (hC.cell (World.block_lt_of_cell? wx _ h7)).trans h7, (hC.cell (World.block_lt_of_cell? wx _ h8)).trans h8, (hC.cell (World.block_lt_of_cell? wx _ h9)).trans h9, (hC.cell (World.block_lt_of_cell? wx _ h10)).trans h10, (hC.cell (World.block_lt_of_cell? wx _ h11)).trans h11, b0, b1, b2, b3, b4, b5, b6, b7, b8, b9, b10, b11, hb.call hC, hr1.below hC (Nat.le_refl _), hr2.below hC (Nat.le_refl _), hB.trans (hC.mono hB.size)⟩))
          have K1 := Lib.hid (fun (wx : World) (h : wx.cell? ⟨w.heap.size + 1, 0, none⟩ = some (.string ⟨#[]⟩) ∧ wx.cell? ⟨w.heap.size + 1, 1, none⟩ = some (.string ⟨#[]⟩) ∧ wx.cell? ⟨w.heap.size + 1, 2, none⟩ = some (.string ⟨#[]⟩) ∧ wx.cell? ⟨w.heap.size + 1, 3, none⟩ = some (.int .i64 0) ∧ wx.cell? ⟨w.heap.size + 1, 4, none⟩ = some (.slice none 0 0) ∧ wx.cell? ⟨w.heap.size + 1, 5, none⟩ = some (.slice none 0 0) ∧ wx.cell? ⟨w9.heap.size, 0, none⟩ = some (.string SC) ∧ wx.cell? ⟨w9.heap.size, 1, none⟩ = some (.string UN) ∧ wx.cell? ⟨w9.heap.size, 2, none⟩ = some (.string HH) ∧ wx.cell? ⟨w9.heap.size, 3, none⟩ = some (.int .i64 p) ∧ wx.cell? ⟨w9.heap.size, 4, none⟩ = some (.slice ao1 PL.length cp1) ∧ wx.cell? ⟨w9.heap.size, 5, none⟩ = some (.slice none 0 0) ∧ wx.cell? ⟨w.heap.size, 0, none⟩ = some (.string ⟨#[]⟩) ∧ wx.cell? ⟨w.heap.size, 1, none⟩ = some (.string ⟨#[]⟩) ∧ wx.cell? ⟨w.heap.size, 2, none⟩ = some (.string ⟨#[]⟩) ∧ wx.cell? ⟨w.heap.size, 3, none⟩ = some (.int .i64 0) ∧ wx.cell? ⟨w.heap.size, 4, none⟩ = some (.slice none 0 0) ∧ wx.cell? ⟨w.heap.size, 5, none⟩ = some (.slice none 0 0) ∧ wx.frozen? ⟨w.heap.size, 0, none⟩ = false ∧ wx.frozen? ⟨w.heap.size, 1, none⟩ = false ∧ wx.frozen? ⟨w.heap.size, 2, none⟩ = false ∧ wx.frozen? ⟨w.heap.size, 3, none⟩ = false ∧ wx.frozen? ⟨w.heap.size, 4, none⟩ = false ∧ wx.frozen? ⟨w.heap.size, 5, none⟩ = false ∧ Blk wx w.heap.size 24 #[.string ⟨#[]⟩, .string ⟨#[]⟩, .string ⟨#[]⟩, .int .i64 0, .slice none 0 0, .slice none 0 0] ∧ RPrms wx (.slice ao1 PL.length cp1) PL ∧ RPrms wx (.slice none 0 0) [] ∧ Below w.heap.size w wx) => (show RPrms wx (.slice ao1 PL.length cp1) PL from h.2.2.2.2.2.2.2.2.2.2.2.2.2.2.2.2.2.2.2.2.2.2.2.2.2.1))
          have K2 := Lib.hid (fun (wx : World) (h : wx.cell? ⟨w.heap.size + 1, 0, none⟩ = some (.string ⟨#[]⟩) ∧ wx.cell? ⟨w.heap.size + 1, 1, none⟩ = some (.string ⟨#[]⟩) ∧ wx.cell? ⟨w.heap.size + 1, 2, none⟩ = some (.string ⟨#[]⟩) ∧ wx.cell? ⟨w.heap.size + 1, 3, none⟩ = some (.int .i64 0) ∧ wx.cell? ⟨w.heap.size + 1, 4, none⟩ = some (.slice none 0 0) ∧ wx.cell? ⟨w.heap.size + 1, 5, none⟩ = some (.slice none 0 0) ∧ wx.cell? ⟨w9.heap.size, 0, none⟩ = some (.string SC) ∧ wx.cell? ⟨w9.heap.size, 1, none⟩ = some (.string UN) ∧ wx.cell? ⟨w9.heap.size, 2, none⟩ = some (.string HH) ∧ wx.cell? ⟨w9.heap.size, 3, none⟩ = some (.int .i64 p) ∧ wx.cell? ⟨w9.heap.size, 4, none⟩ = some (.slice ao1 PL.length cp1) ∧ wx.cell? ⟨w9.heap.size, 5, none⟩ = some (.slice none 0 0) ∧ wx.cell? ⟨w.heap.size, 0, none⟩ = some (.string ⟨#[]⟩) ∧ wx.cell? ⟨w.heap.size, 1, none⟩ = some (.string ⟨#[]⟩) ∧ wx.cell? ⟨w.heap.size, 2, none⟩ = some (.string ⟨#[]⟩) ∧ wx.cell? ⟨w.heap.size, 3, none⟩ = some (.int .i64 0) ∧ wx.cell? ⟨w.heap.size, 4, none⟩ = some (.slice none 0 0) ∧ wx.cell? ⟨w.heap.size, 5, none⟩ = some (.slice none 0 0) ∧ wx.frozen? ⟨w.heap.size, 0, none⟩ = false ∧ wx.frozen? ⟨w.heap.size, 1, none⟩ = false ∧ wx.frozen? ⟨w.heap.size, 2, none⟩ = false ∧ wx.frozen? ⟨w.heap.size, 3, none⟩ = false ∧ wx.frozen? ⟨w.heap.size, 4, none⟩ = false ∧ wx.frozen? ⟨w.heap.size, 5, none⟩ = false ∧ Blk wx w.heap.size 24 #[.string ⟨#[]⟩, .string ⟨#[]⟩, .string ⟨#[]⟩, .int .i64 0, .slice none 0 0, .slice none 0 0] ∧ RPrms wx (.slice ao1 PL.length cp1) PL ∧ RPrms wx (.slice none 0 0) [] ∧ Below w.heap.size w wx) => (show RPrms wx (.slice none 0 0) [] from h.2.2.2.2.2.2.2.2.2.2.2.2.2.2.2.2.2.2.2.2.2.2.2.2.2.2.1))
          have hS0 := Lib.hid (show w12.cell? ⟨w.heap.size + 1, 0, none⟩ = some (.string ⟨#[]⟩) ∧ w12.cell? ⟨w.heap.size + 1, 1, none⟩ = some (.string ⟨#[]⟩) ∧ w12.cell? ⟨w.heap.size + 1, 2, none⟩ = some (.string ⟨#[]⟩) ∧ w12.cell? ⟨w.heap.size + 1, 3, none⟩ = some (.int .i64 0) ∧ w12.cell? ⟨w.heap.size + 1, 4, none⟩ = some (.slice none 0 0) ∧ w12.cell? ⟨w.heap.size + 1, 5, none⟩ = some (.slice none 0 0) ∧ w12.cell? ⟨w9.heap.size, 0, none⟩ = some (.string SC) ∧ w12.cell? ⟨w9.heap.size, 1, none⟩ = some (.string UN) ∧ w12.cell? ⟨w9.heap.size, 2, none⟩ = some (.string HH) ∧ w12.cell? ⟨w9.heap.size, 3, none⟩ = some (.int .i64 p) ∧ w12.cell? ⟨w9.heap.size, 4, none⟩ = some (.slice ao1 PL.length cp1) ∧ w12.cell? ⟨w9.heap.size, 5, none⟩ = some (.slice none 0 0) ∧ w12.cell? ⟨w.heap.size, 0, none⟩ = some (.string ⟨#[]⟩) ∧ w12.cell? ⟨w.heap.size, 1, none⟩ = some (.string ⟨#[]⟩) ∧ w12.cell? ⟨w.heap.size, 2, none⟩ = some (.string ⟨#[]⟩) ∧ w12.cell? ⟨w.heap.size, 3, none⟩ = some (.int .i64 0) ∧ w12.cell? ⟨w.heap.size, 4, none⟩ = some (.slice none 0 0) ∧ w12.cell? ⟨w.heap.size, 5, none⟩ = some (.slice none 0 0) ∧ w12.frozen? ⟨w.heap.size, 0, none⟩ = false ∧ w12.frozen? ⟨w.heap.size, 1, none⟩ = false ∧ w12.frozen? ⟨w.heap.size, 2, none⟩ = false ∧ w12.frozen? ⟨w.heap.size, 3, none⟩ = false ∧ w12.frozen? ⟨w.heap.size, 4, none⟩ = false ∧ w12.frozen? ⟨w.heap.size, 5, none⟩ = false ∧ Blk w12 w.heap.size 24 #[.string ⟨#[]⟩, .string ⟨#[]⟩, .string ⟨#[]⟩, .int .i64 0, .slice none 0 0, .slice none 0 0] ∧ RPrms w12 (.slice ao1 PL.length cp1) PL ∧ RPrms w12 (.slice none 0 0) [] ∧ Below w.heap.size w w12 from ⟨m0, m1, m2, m3, m4, m5, y0, y1, y2, y3, y4, y5, r0, r1, r2, r3, r4, r5, g0, g1, g2, g3, g4, g5, bmR, HA1.out, HA2.out, hBB⟩)
          clear m0 m1 m2 m3 m4 m5 y0 y1 y2 y3 y4 y5 bmR bmN bx hBB hZ r0 r1 r2 r3 r4 r5 g0 g1 g2 g3 g4 g5
          skip
          have hS := Lib.hid (KC.out _ _ hS0.out ((Below.refl _ _).drew))
          obtain ⟨m0, m1, m2, m3, m4, m5, y0, y1, y2, y3, y4, y5, r0, r1, r2, r3, r4, r5, g0, g1, g2, g3, g4, g5, _, _, _, hBB⟩ := hS0.out
          clear hS0
          refine wp_region_any (by kernel_rfl) ?_
          try (change wpAny _ _ _ _ _ _ _ (World.drew _))
          refine wpAny_ready (rs := [0, 1]) (by kernel_rfl) (by simp) ?_
          refine AllReady.cons rfl (fun K hK => ?_) ?_
          ·
            go_simp
            refine hK _ _ ?_; clear hK K
            refine wpAny_ready (rs := [1]) (by kernel_rfl) (by simp) ?_
            refine AllReady.cons rfl (fun K hK => ?_) ?_
            ·
              go_simp
              refine hK _ _ ?_; clear hK K
              refine wpAny_ready (rs := [2]) (by kernel_rfl) (by simp) ?_
              refine AllReady.cons rfl (fun K hK => ?_) ?_
              ·
                refine step_wB1 rfl rfl Tryz.func119 nmCkR bdCkR rfl (HCK.out _ _ _ (K1.out _ hS.out) (K2.out _ hS.out)) ?_
                intro w13 hC13
                replace hS := Lib.hid (KC.out _ _ hS.out hC13)
                clear m0 m1 m2 m3 m4 m5 y0 y1 y2 y3 y4 y5 r0 r1 r2 r3 r4 r5 g0 g1 g2 g3 g4 g5  hBB
                obtain ⟨m0, m1, m2, m3, m4, m5, y0, y1, y2, y3, y4, y5, r0, r1, r2, r3, r4, r5, g0, g1, g2, g3, g4, g5, _, _, _, hBB⟩ := hS.out
                try go_simp
                refine hK _ _ ?_; clear hK K
                refine wpAny_ready (rs := [3]) (by kernel_rfl) (by simp) ?_
                refine AllReady.cons rfl (fun K hK => ?_) ?_
                ·
                  go_simp
                  refine hK _ _ ?_; clear hK K
                  first | (refine wpAny_take (i := 4) (v := undef) rfl (by kernel_rfl) (by kernel_rfl) (by kernel_rfl) (fun _ _ _ h => h) (Or.inr ⟨by rfl, rfl⟩) ?_) | (refine wpAny_take (i := 4) (v := ?_) rfl (by kernel_rfl) (by kernel_rfl) (by kernel_rfl) (fun _ _ _ h => h) ?_ ?_; rotate_left; focus (refine Or.inl ⟨by rfl, ?_⟩; intro _; go_simp; first | done | with_reducible rfl | (rw [if_neg (by omega)]; done) | (rw [if_neg (by omega)]; with_reducible rfl)))
                  try go_simp
                  refine wpAny_done (by kernel_rfl) ?_ _
                  go_wp2
                  refine bodyPost_ret (v := .tuple #[.agg #[.string ⟨#[]⟩, .string ⟨#[]⟩, .string ⟨#[]⟩, .int .i64 0, .slice none 0 0, .slice none 0 0], .int .i64 C]) (by simp [results, Tryz.results68, go_sem, r0, r1, r2, r3, r4, r5]) rfl ?_
                  exact ⟨_, _, by (rw [HR.out]; rfl), by (rw [HR.out]; exact .inl ⟨⟨_, _, rfl⟩, rfl⟩), by (rw [HR.out]; exact .inl ⟨⟨_, _, rfl⟩, rfl⟩), Fresh.nil _ _ _, Fresh.nil _ _ _, ((((((hBB.setCell (Nat.le_refl _) _).setCell (Nat.le_refl _) _).setCell (Nat.le_refl _) _).setCell (Nat.le_refl _) _).setCell (Nat.le_refl _) _).setCell (Nat.le_refl _) _)⟩
                exact AllReady.nil
              exact AllReady.nil
            exact AllReady.nil
          refine AllReady.cons rfl (fun K hK => ?_) ?_
          ·
            go_simp
            refine hK _ _ ?_; clear hK K
            refine wpAny_ready (rs := [0, 2]) (by kernel_rfl) (by simp) ?_
            refine AllReady.cons rfl (fun K hK => ?_) ?_
            ·
              go_simp
              refine hK _ _ ?_; clear hK K
              refine wpAny_ready (rs := [2]) (by kernel_rfl) (by simp) ?_
              refine AllReady.cons rfl (fun K hK => ?_) ?_
              ·
                refine step_wB1 rfl rfl Tryz.func119 nmCkR bdCkR rfl (HCK.out _ _ _ (K1.out _ hS.out) (K2.out _ hS.out)) ?_
                intro w13 hC13
                replace hS := Lib.hid (KC.out _ _ hS.out hC13)
                clear m0 m1 m2 m3 m4 m5 y0 y1 y2 y3 y4 y5 r0 r1 r2 r3 r4 r5 g0 g1 g2 g3 g4 g5  hBB
                obtain ⟨m0, m1, m2, m3, m4, m5, y0, y1, y2, y3, y4, y5, r0, r1, r2, r3, r4, r5, g0, g1, g2, g3, g4, g5, _, _, _, hBB⟩ := hS.out
                try go_simp
                refine hK _ _ ?_; clear hK K
                refine wpAny_ready (rs := [3]) (by kernel_rfl) (by simp) ?_
                refine AllReady.cons rfl (fun K hK => ?_) ?_
                ·
                  go_simp
                  refine hK _ _ ?_; clear hK K
                  first | (refine wpAny_take (i := 4) (v := undef) rfl (by kernel_rfl) (by kernel_rfl) (by kernel_rfl) (fun _ _ _ h => h) (Or.inr ⟨by rfl, rfl⟩) ?_) | (refine wpAny_take (i := 4) (v := ?_) rfl (by kernel_rfl) (by kernel_rfl) (by kernel_rfl) (fun _ _ _ h => h) ?_ ?_; rotate_left; focus (refine Or.inl ⟨by rfl, ?_⟩; intro _; go_simp; first | done | with_reducible rfl | (rw [if_neg (by omega)]; done) | (rw [if_neg (by omega)]; with_reducible rfl)))
                  try go_simp
                  refine wpAny_done (by kernel_rfl) ?_ _
                  go_wp2
                  refine bodyPost_ret (v := .tuple #[.agg #[.string ⟨#[]⟩, .string ⟨#[]⟩, .string ⟨#[]⟩, .int .i64 0, .slice none 0 0, .slice none 0 0], .int .i64 C]) (by simp [results, Tryz.results68, go_sem, r0, r1, r2, r3, r4, r5]) rfl ?_
                  exact ⟨_, _, by (rw [HR.out]; rfl), by (rw [HR.out]; exact .inl ⟨⟨_, _, rfl⟩, rfl⟩), by (rw [HR.out]; exact .inl ⟨⟨_, _, rfl⟩, rfl⟩), Fresh.nil _ _ _, Fresh.nil _ _ _, ((((((hBB.setCell (Nat.le_refl _) _).setCell (Nat.le_refl _) _).setCell (Nat.le_refl _) _).setCell (Nat.le_refl _) _).setCell (Nat.le_refl _) _).setCell (Nat.le_refl _) _)⟩
                exact AllReady.nil
              exact AllReady.nil
            refine AllReady.cons rfl (fun K hK => ?_) ?_
            ·
              refine step_wB1 rfl rfl Tryz.func119 nmCkR bdCkR rfl (HCK.out _ _ _ (K1.out _ hS.out) (K2.out _ hS.out)) ?_
              intro w13 hC13
              replace hS := Lib.hid (KC.out _ _ hS.out hC13)
              clear m0 m1 m2 m3 m4 m5 y0 y1 y2 y3 y4 y5 r0 r1 r2 r3 r4 r5 g0 g1 g2 g3 g4 g5  hBB
              obtain ⟨m0, m1, m2, m3, m4, m5, y0, y1, y2, y3, y4, y5, r0, r1, r2, r3, r4, r5, g0, g1, g2, g3, g4, g5, _, _, _, hBB⟩ := hS.out
              try go_simp
              refine hK _ _ ?_; clear hK K
              refine wpAny_ready (rs := [0]) (by kernel_rfl) (by simp) ?_
              refine AllReady.cons rfl (fun K hK => ?_) ?_
              ·
                go_simp
                refine hK _ _ ?_; clear hK K
                refine wpAny_ready (rs := [3]) (by kernel_rfl) (by simp) ?_
                refine AllReady.cons rfl (fun K hK => ?_) ?_
                ·
                  go_simp
                  refine hK _ _ ?_; clear hK K
                  first | (refine wpAny_take (i := 4) (v := undef) rfl (by kernel_rfl) (by kernel_rfl) (by kernel_rfl) (fun _ _ _ h => h) (Or.inr ⟨by rfl, rfl⟩) ?_) | (refine wpAny_take (i := 4) (v := ?_) rfl (by kernel_rfl) (by kernel_rfl) (by kernel_rfl) (fun _ _ _ h => h) ?_ ?_; rotate_left; focus (refine Or.inl ⟨by rfl, ?_⟩; intro _; go_simp; first | done | with_reducible rfl | (rw [if_neg (by omega)]; done) | (rw [if_neg (by omega)]; with_reducible rfl)))
                  try go_simp
                  refine wpAny_done (by kernel_rfl) ?_ _
                  go_wp2
                  refine bodyPost_ret (v := .tuple #[.agg #[.string ⟨#[]⟩, .string ⟨#[]⟩, .string ⟨#[]⟩, .int .i64 0, .slice none 0 0, .slice none 0 0], .int .i64 C]) (by simp [results, Tryz.results68, go_sem, r0, r1, r2, r3, r4, r5]) rfl ?_
                  exact ⟨_, _, by (rw [HR.out]; rfl), by (rw [HR.out]; exact .inl ⟨⟨_, _, rfl⟩, rfl⟩), by (rw [HR.out]; exact .inl ⟨⟨_, _, rfl⟩, rfl⟩), Fresh.nil _ _ _, Fresh.nil _ _ _, ((((((hBB.setCell (Nat.le_refl _) _).setCell (Nat.le_refl _) _).setCell (Nat.le_refl _) _).setCell (Nat.le_refl _) _).setCell (Nat.le_refl _) _).setCell (Nat.le_refl _) _)⟩
                exact AllReady.nil
              exact AllReady.nil
            exact AllReady.nil
          exact AllReady.nil
    · have HSV := Lib.hid (show sv sc = .string SC by rw [← HSCu.out]; simp [sv])
      have HUV := Lib.hid (show sv un = .string UN by first | rfl | (have h := HUNu.out; rw [← h]; simp [sv]))
      have HHV := Lib.hid (show sv hl = .string HH by rw [← HHHu.out]; simp [sv])
      have HU0 := Lib.hid (fun (wx : World) => (show RPrms wx (.slice none 0 0) [] from .inl ⟨⟨_, _, rfl⟩, rfl⟩))
      obtain ⟨w1', w2', w3'⟩ := HWO.out rfl
      have hH64 := (host_low _ w1').2.2
      rw [← HHHl.out] at hH64
      have HCK := Lib.hid (fun wx u1 u2 h1 h2 => checkUR_c SC UN HH p u1 u2 PL HL2 hSCl (by omega) wx h1 h2 HPB1.out HPB2.out)
      rw [HSCu.out, HUNu.out, HHHu.out] at HCK
      obtain ⟨C, hC⟩ : ∃ C, C = checkU ⟨sc, un, hl, p, PL, HL2⟩ := ⟨_, rfl⟩
      unfold endU at hR
      rw [← hC] at HCK hR
      clear hC w1' w2' w3' hH64
      go_upto_region 26 with (first | (go_at_call 122; ((with_reducible refine (HCT3.out _).mono ?_); rintro e w6 ⟨rfl, hD⟩); have hZ := hZ.trans (hD.below (B := w0.heap.size)); obtain ⟨bmR, bmN, hBB⟩ := HX.out _ hZ; obtain ⟨r0, r1, r2, r3, r4, r5, g0, g1, g2, g3, g4, g5, zR⟩ := blk_h6 bmR; obtain ⟨m0, m1, m2, m3, m4, m5, _, _, _, _, _, _, zN⟩ := blk_h6 bmN) | (go_at_call 127; ((with_reducible refine (HSP.out _).mono ?_); rintro e w7 ⟨v, rfl, hv, hC7⟩); have hZ := hZ.trans (hC7.mono hZ.size); obtain ⟨bmR, bmN, hBB⟩ := HX.out _ hZ; obtain ⟨r0, r1, r2, r3, r4, r5, g0, g1, g2, g3, g4, g5, zR⟩ := blk_h6 bmR; obtain ⟨m0, m1, m2, m3, m4, m5, _, _, _, _, _, _, zN⟩ := blk_h6 bmN; have HV := Lib.hid hv; obtain ⟨ao, cap, rfl, hm1, c1⟩ := hv.form; obtain ⟨b, off, rfl, hb1, hc1⟩ := c1 (by simp); have x0 := hc1 0 (by simp); rw [Nat.add_zero] at x0; have k1 : (0 : Int) < ((x :: xs).length : Int) := (by simp); clear hc1 c1 hv; unfold maxLen at hm1) | (go_at_call 128; ((with_reducible refine (HWH.out _).mono ?_); rintro e w8 ⟨rfl, hC8⟩); have hZ := hZ.trans (hC8.mono hZ.size); obtain ⟨bmR, bmN, hBB⟩ := HX.out _ hZ; obtain ⟨r0, r1, r2, r3, r4, r5, g0, g1, g2, g3, g4, g5, zR⟩ := blk_h6 bmR; obtain ⟨m0, m1, m2, m3, m4, m5, _, _, _, _, _, _, zN⟩ := blk_h6 bmN; have HV := Lib.hid (HV.out.below hC8 (Nat.le_refl _))) | (go_at_call 129; ((with_reducible refine (HRD1.out _ _ (by first | exact HV.out.tailB | exact HV.out.tailA (by first | assumption | omega))).mono ?_); rintro e w9 ⟨u1, rfl, hu1, hF1, hC9⟩); have hF1 := hF1.mono (show w.heap.size + 2 ≤ _ from HS2.out ▸ hZ.size); have hZ := hZ.trans (hC9.mono hZ.size); obtain ⟨bmR, bmN, hBB⟩ := HX.out _ hZ; obtain ⟨r0, r1, r2, r3, r4, r5, g0, g1, g2, g3, g4, g5, zR⟩ := blk_h6 bmR; obtain ⟨m0, m1, m2, m3, m4, m5, _, _, _, _, _, _, zN⟩ := blk_h6 bmN; obtain ⟨ao1, cp1, rfl, _, _⟩ := hu1.form; have HU1 := Lib.hid hu1; have HF1 := Lib.hid hF1; clear hu1 hF1) | (go_at_call 127; ((with_reducible refine (HSP2.out _).mono ?_); rintro e w10 ⟨v2, rfl, hv2, hC10⟩); have HU1 := Lib.hid (HU1.out.below hC10 (Nat.le_refl _)); have hZ := hZ.trans (hC10.mono hZ.size); obtain ⟨bmR, bmN, hBB⟩ := HX.out _ hZ; obtain ⟨r0, r1, r2, r3, r4, r5, g0, g1, g2, g3, g4, g5, zR⟩ := blk_h6 bmR; obtain ⟨m0, m1, m2, m3, m4, m5, _, _, _, _, _, _, zN⟩ := blk_h6 bmN) | (go_at_call 129; ((with_reducible refine (HRD2.out _ _ hv2).mono ?_); rintro e w11 ⟨u2, rfl, hu2, hF2, hC11⟩); have hF2 := hF2.mono (show w.heap.size + 2 ≤ _ from HS2.out ▸ hZ.size); have HU1 := Lib.hid (HU1.out.below hC11 (Nat.le_refl _)); have hZ := hZ.trans (hC11.mono hZ.size); obtain ⟨bmR, bmN, hBB⟩ := HX.out _ hZ; obtain ⟨r0, r1, r2, r3, r4, r5, g0, g1, g2, g3, g4, g5, zR⟩ := blk_h6 bmR; obtain ⟨m0, m1, m2, m3, m4, m5, _, _, _, _, _, _, zN⟩ := blk_h6 bmN; obtain ⟨ao2, cp2, rfl, _, _⟩ := hu2.form; have HU2 := Lib.hid hu2; have HF2 := Lib.hid hF2; clear hu2 hF2))
      all_goals
        have hA := hZ.alloc hZ.size (.cells #[.string SC, .string UN, .string HH, .int .i64 p, .slice ao1 PL.length cp1, (.slice ao2 HL2.length cp2)] 24)
        have bx := Blk.new w11 24 #[.string SC, .string UN, .string HH, .int .i64 p, .slice ao1 PL.length cp1, (.slice ao2 HL2.length cp2)]
        have ha1 := HU1.out.below ((Below.refl w11.heap.size w11).alloc (Nat.le_refl _) (.cells #[.string SC, .string UN, .string HH, .int .i64 p, .slice ao1 PL.length cp1, (.slice ao2 HL2.length cp2)] 24)) (Nat.le_refl _)
        have ha2 := HU2.out.below ((Below.refl w11.heap.size w11).alloc (Nat.le_refl _) (.cells #[.string SC, .string UN, .string HH, .int .i64 p, .slice ao1 PL.length cp1, (.slice ao2 HL2.length cp2)] 24)) (Nat.le_refl _)
        clear r0 r1 r2 r3 r4 r5 g0 g1 g2 g3 g4 g5 m0 m1 m2 m3 m4 m5
        obtain ⟨wu, hwu⟩ : ∃ x, x = w11.alloc (.cells #[.string SC, .string UN, .string HH, .int .i64 p, .slice ao1 PL.length cp1, (.slice ao2 HL2.length cp2)] 24) := ⟨_, rfl⟩
        rw [← hwu] at hA bx ha1 ha2
        have HWU := Lib.hid hwu
        clear hwu
        have HA1 := Lib.hid ha1
        have HA2 := Lib.hid ha2
        clear ha1 ha2
        have zU : w11.heap.size < wu.heap.size := bx.lt
        have HZL := Lib.hid (hZ.size : w0.heap.size ≤ w11.heap.size)
        have hZ := hA
        obtain ⟨bmR, bmN, hBB⟩ := HX.out _ hZ
        obtain ⟨r0, r1, r2, r3, r4, r5, g0, g1, g2, g3, g4, g5, zR⟩ := blk_h6 bmR
        obtain ⟨m0, m1, m2, m3, m4, m5, _, _, _, _, _, _, zN⟩ := blk_h6 bmN
        obtain ⟨y0, y1, y2, y3, y4, y5⟩ := blk_f6 bx
        by_cases hc0 : C = 0
        · subst hc0
          rw [if_pos rfl] at hR
          have HR := Lib.hid hR
          clear hR
          go_wp2_with (go_at_call 119; (try rw [← HWU.out]); ((with_reducible refine (HCK.out _ _ _ HA1.out HA2.out).mono ?_); rintro e w12 ⟨rfl, hC12⟩); have bx := bx.call hC12; have HA1 := Lib.hid (HA1.out.below hC12 (Nat.le_refl _)); have HA2 := Lib.hid (HA2.out.below hC12 (Nat.le_refl _)); have zU := Nat.lt_of_lt_of_le zU hC12.size; have hZ := hZ.trans (hC12.mono hZ.size); obtain ⟨bmR, bmN, hBB⟩ := HX.out _ hZ; obtain ⟨r0, r1, r2, r3, r4, r5, g0, g1, g2, g3, g4, g5, zR⟩ := blk_h6 bmR; obtain ⟨m0, m1, m2, m3, m4, m5, _, _, _, _, _, _, zN⟩ := blk_h6 bmN; obtain ⟨y0, y1, y2, y3, y4, y5⟩ := blk_f6 bx)
          refine bodyPost_ret (v := .tuple #[.agg #[.string SC, .string UN, .string HH, .int .i64 p, .slice ao1 PL.length cp1, (.slice ao2 HL2.length cp2)], .int .i64 0]) (by simp [results, Tryz.results68, go_sem, r0, r1, r2, r3, r4, r5]) rfl ?_
          exact ⟨_, _, by (rw [HR.out]; show _ = Ending.returned (.tuple #[.agg #[sv sc, sv un, sv hl, .int .i64 p, _, _], .int .i64 0]); rw [HSV.out, HUV.out, HHV.out]), (by rw [HR.out]; exact (RPrms.set (RPrms.set (RPrms.set (RPrms.set (RPrms.set (RPrms.set HA1.out HF1.out (p := ⟨w.heap.size, 0, none⟩) (show w.heap.size < w.heap.size + 2 by omega) _) HF1.out (p := ⟨w.heap.size, 1, none⟩) (show w.heap.size < w.heap.size + 2 by omega) _) HF1.out (p := ⟨w.heap.size, 2, none⟩) (show w.heap.size < w.heap.size + 2 by omega) _) HF1.out (p := ⟨w.heap.size, 3, none⟩) (show w.heap.size < w.heap.size + 2 by omega) _) HF1.out (p := ⟨w.heap.size, 4, none⟩) (show w.heap.size < w.heap.size + 2 by omega) _) HF1.out (p := ⟨w.heap.size, 5, none⟩) (show w.heap.size < w.heap.size + 2 by omega) _)), (by rw [HR.out]; exact (RPrms.set (RPrms.set (RPrms.set (RPrms.set (RPrms.set (RPrms.set HA2.out HF2.out (p := ⟨w.heap.size, 0, none⟩) (show w.heap.size < w.heap.size + 2 by omega) _) HF2.out (p := ⟨w.heap.size, 1, none⟩) (show w.heap.size < w.heap.size + 2 by omega) _) HF2.out (p := ⟨w.heap.size, 2, none⟩) (show w.heap.size < w.heap.size + 2 by omega) _) HF2.out (p := ⟨w.heap.size, 3, none⟩) (show w.heap.size < w.heap.size + 2 by omega) _) HF2.out (p := ⟨w.heap.size, 4, none⟩) (show w.heap.size < w.heap.size + 2 by omega) _) HF2.out (p := ⟨w.heap.size, 5, none⟩) (show w.heap.size < w.heap.size + 2 by omega) _)), HF1.out.mono (by omega), HF2.out.mono (by omega), ((((((hBB.setCell (Nat.le_refl _) _).setCell (Nat.le_refl _) _).setCell (Nat.le_refl _) _).setCell (Nat.le_refl _) _).setCell (Nat.le_refl _) _).setCell (Nat.le_refl _) _)⟩
        · rw [if_neg hc0] at hR
          have HR := Lib.hid hR
          have t9 : (C != 0) = true := by simpa using hc0
          clear hR hc0
          go_wp2_with (go_at_call 119; (try rw [← HWU.out]); ((with_reducible refine (HCK.out _ _ _ HA1.out HA2.out).mono ?_); rintro e w12 ⟨rfl, hC12⟩); have bx := bx.call hC12; have HA1 := Lib.hid (HA1.out.below hC12 (Nat.le_refl _)); have HA2 := Lib.hid (HA2.out.below hC12 (Nat.le_refl _)); have zU := Nat.lt_of_lt_of_le zU hC12.size; have hZ := hZ.trans (hC12.mono hZ.size); obtain ⟨bmR, bmN, hBB⟩ := HX.out _ hZ; obtain ⟨r0, r1, r2, r3, r4, r5, g0, g1, g2, g3, g4, g5, zR⟩ := blk_h6 bmR; obtain ⟨m0, m1, m2, m3, m4, m5, _, _, _, _, _, _, zN⟩ := blk_h6 bmN; obtain ⟨y0, y1, y2, y3, y4, y5⟩ := blk_f6 bx)
          have zW : w.heap.size + 2 ≤ w11.heap.size := by have := HZL.out; have h2 := HS2.out; omega
          have KC := Lib.hid (fun (wx w' : World) (h : wx.cell? ⟨w.heap.size + 1, 0, none⟩ = some (.string ⟨#[]⟩) ∧ wx.cell? ⟨w.heap.size + 1, 1, none⟩ = some (.string ⟨#[]⟩) ∧ wx.cell? ⟨w.heap.size + 1, 2, none⟩ = some (.string ⟨#[]⟩) ∧ wx.cell? ⟨w.heap.size + 1, 3, none⟩ = some (.int .i64 0) ∧ wx.cell? ⟨w.heap.size + 1, 4, none⟩ = some (.slice none 0 0) ∧ wx.cell? ⟨w.heap.size + 1, 5, none⟩ = some (.slice none 0 0) ∧ wx.cell? ⟨w11.heap.size, 0, none⟩ = some (.string SC) ∧ wx.cell? ⟨w11.heap.size, 1, none⟩ = some (.string UN) ∧ wx.cell? ⟨w11.heap.size, 2, none⟩ = some (.string HH) ∧ wx.cell? ⟨w11.heap.size, 3, none⟩ = some (.int .i64 p) ∧ wx.cell? ⟨w11.heap.size, 4, none⟩ = some (.slice ao1 PL.length cp1) ∧ wx.cell? ⟨w11.heap.size, 5, none⟩ = some (.slice ao2 HL2.length cp2) ∧ wx.cell? ⟨w.heap.size, 0, none⟩ = some (.string ⟨#[]⟩) ∧ wx.cell? ⟨w.heap.size, 1, none⟩ = some (.string ⟨#[]⟩) ∧ wx.cell? ⟨w.heap.size, 2, none⟩ = some (.string ⟨#[]⟩) ∧ wx.cell? ⟨w.heap.size, 3, none⟩ = some (.int .i64 0) ∧ wx.cell? ⟨w.heap.size, 4, none⟩ = some (.slice none 0 0) ∧ wx.cell? ⟨w.heap.size, 5, none⟩ = some (.slice none 0 0) ∧ wx.frozen? ⟨w.heap.size, 0, none⟩ = false ∧ wx.frozen? ⟨w.heap.size, 1, none⟩ = false ∧ wx.frozen? ⟨w.heap.size, 2, none⟩ = false ∧ wx.frozen? ⟨w.heap.size, 3, none⟩ = false ∧ wx.frozen? ⟨w.heap.size, 4, none⟩ = false ∧ wx.frozen? ⟨w.heap.size, 5, none⟩ = false ∧ Blk wx w.heap.size 24 #[.string ⟨#[]⟩, .string ⟨#[]⟩, .string ⟨#[]⟩, .int .i64 0, .slice none 0 0, .slice none 0 0] ∧ RPrms wx (.slice ao1 PL.length cp1) PL ∧ RPrms wx (.slice ao2 HL2.length cp2) HL2 ∧ Below w.heap.size w wx) (hC : Below wx.heap.size wx w') => (show w'.cell? ⟨w.heap.size + 1, 0, none⟩ = some (.string ⟨#[]⟩) ∧ w'.cell? ⟨w.heap.size + 1, 1, none⟩ = some (.string ⟨#[]⟩) ∧ w'.cell? ⟨w.heap.size + 1, 2, none⟩ = some (.string ⟨#[]⟩) ∧ w'.cell? ⟨w.heap.size + 1, 3, none⟩ = some (.int .i64 0) ∧ w'.cell? ⟨w.heap.size + 1, 4, none⟩ = some (.slice none 0 0) ∧ w'.cell? ⟨w.heap.size + 1, 5, none⟩ = some (.slice none 0 0) ∧ w'.cell? ⟨w11.heap.size, 0, none⟩ = some (.string SC) ∧ w'.cell? ⟨w11.heap.size, 1, none⟩ = some (.string UN) ∧ w'.cell? ⟨w11.heap.size, 2, none⟩ = some (.string HH) ∧ w'.cell? ⟨w11.heap.size, 3, none⟩ = some (.int .i64 p) ∧ w'.cell? ⟨w11.heap.size, 4, none⟩ = some (.slice ao1 PL.length cp1) ∧ w'.cell? ⟨w11.heap.size, 5, none⟩ = some (.slice ao2 HL2.length cp2) ∧ w'.cell? ⟨w.heap.size, 0, none⟩ = some (.string ⟨#[]⟩) ∧ w'.cell? ⟨w.heap.size, 1, none⟩ = some (.string ⟨#[]⟩) ∧ w'.cell? ⟨w.heap.size, 2, none⟩ = some (.string ⟨#[]⟩) ∧ w'.cell? ⟨w.heap.size, 3, none⟩ = some (.int .i64 0) ∧ w'.cell? ⟨w.heap.size, 4, none⟩ = some (.slice none 0 0) ∧ w'.cell? ⟨w.heap.size, 5, none⟩ = some (.slice none 0 0) ∧ w'.frozen? ⟨w.heap.size, 0, none⟩ = false ∧ w'.frozen? ⟨w.heap.size, 1, none⟩ = false ∧ w'.frozen? ⟨w.heap.size, 2, none⟩ = false ∧ w'.frozen? ⟨w.heap.size, 3, none⟩ = false ∧ w'.frozen? ⟨w.heap.size, 4, none⟩ = false ∧ w'.frozen? ⟨w.heap.size, 5, none⟩ = false ∧ Blk w' w.heap.size 24 #[.string ⟨#[]⟩, .string ⟨#[]⟩, .string ⟨#[]⟩, .int .i64 0, .slice none 0 0, .slice none 0 0] ∧ RPrms w' (.slice ao1 PL.length cp1) PL ∧ RPrms w' (.slice ao2 HL2.length cp2) HL2 ∧ Below w.heap.size w w' from by
            obtain ⟨h0, h1, h2, h3, h4, h5, h6, h7, h8, h9, h10, h11, _, _, _, _, _, _, _, _, _, _, _, _, hb, hr1, hr2, hB⟩ := h
            have nb := hb.call hC
            obtain ⟨b0, b1, b2, b3, b4, b5, b6, b7, b8, b9, b10, b11, _⟩ := blk_h6 nb
            exact ⟨(hC.cell (World.block_lt_of_cell? wx _ h0)).trans h0, (hC.cell (World.block_lt_of_cell? wx _ h1)).trans h1, (hC.cell (World.block_lt_of_cell? wx _ h2)).trans h2, (hC.cell (World.block_lt_of_cell? wx _ h3)).trans h3, (hC.cell (World.block_lt_of_cell? wx _ h4)).trans h4, (hC.cell (World.block_lt_of_cell? wx _ h5)).trans h5, (hC.cell (World.block_lt_of_cell? wx _ h6)).trans h6, (hC.cell (World.block_lt_of_cell? wx _ h7)).trans h7, (hC.cell (World.block_lt_of_cell? wx _ h8)).trans h8, (hC.cell (World.block_lt_of_cell? wx _ h9)).trans h9, (hC.cell (World.block_lt_of_cell? wx _ h10)).trans h10, (hC.cell (World.block_lt_of_cell? wx _ h11)).trans h11, b0, b1, b2, b3, b4, b5, b6, b7, b8, b9, b10, b11, hb.call hC, hr1.below hC (Nat.le_refl _), hr2.below hC (Nat.le_refl _), hB.trans (hC.mono hB.size)⟩))
          have K1 := Lib.hid (fun (wx : World) (h : wx.cell? ⟨w.heap.size + 1, 0, none⟩ = some (.string ⟨#[]⟩) ∧ wx.cell? ⟨w.heap.size + 1, 1, none⟩ = some (.string ⟨#[]⟩) ∧ wx.cell? ⟨w.heap.size + 1, 2, none⟩ = some (.string ⟨#[]⟩) ∧ wx.cell? ⟨w.heap.size + 1, 3, none⟩ = some (.int .i64 0) ∧ wx.cell? ⟨w.heap.size + 1, 4, none⟩ = some (.slice none 0 0) ∧ wx.cell? ⟨w.heap.size + 1, 5, none⟩ = some (.slice none 0 0) ∧ wx.cell? ⟨w11.heap.size, 0, none⟩ = some (.string SC) ∧ wx.cell? ⟨w11.heap.size, 1, none⟩ = some (.string UN) ∧ wx.cell? ⟨w11.heap.size, 2, none⟩ = some (.string HH) ∧ wx.cell? ⟨w11.heap.size, 3, none⟩ = some (.int .i64 p) ∧ wx.cell? ⟨w11.heap.size, 4, none⟩ = some (.slice ao1 PL.length cp1) ∧ wx.cell? ⟨w11.heap.size, 5, none⟩ = some (.slice ao2 HL2.length cp2) ∧ wx.cell? ⟨w.heap.size, 0, none⟩ = some (.string ⟨#[]⟩) ∧ wx.cell? ⟨w.heap.size, 1, none⟩ = some (.string ⟨#[]⟩) ∧ wx.cell? ⟨w.heap.size, 2, none⟩ = some (.string ⟨#[]⟩) ∧ wx.cell? ⟨w.heap.size, 3, none⟩ = some (.int .i64 0) ∧ wx.cell? ⟨w.heap.size, 4, none⟩ = some (.slice none 0 0) ∧ wx.cell? ⟨w.heap.size, 5, none⟩ = some (.slice none 0 0) ∧ wx.frozen? ⟨w.heap.size, 0, none⟩ = false ∧ wx.frozen? ⟨w.heap.size, 1, none⟩ = false ∧ wx.frozen? ⟨w.heap.size, 2, none⟩ = false ∧ wx.frozen? ⟨w.heap.size, 3, none⟩ = false ∧ wx.frozen? ⟨w.heap.size, 4, none⟩ = false ∧ wx.frozen? ⟨w.heap.size, 5, none⟩ = false ∧ Blk wx w.heap.size 24 #[.string ⟨#[]⟩, .string ⟨#[]⟩, .string ⟨#[]⟩, .int .i64 0, .slice none 0 0, .slice none 0 0] ∧ RPrms wx (.slice ao1 PL.length cp1) PL ∧ RPrms wx (.slice ao2 HL2.length cp2) HL2 ∧ Below w.heap.size w wx) => (show RPrms wx (.slice ao1 PL.length cp1) PL from h.2.2.2.2.2.2.2.2.2.2.2.2.2.2.2.2.2.2.2.2.2.2.2.2.2.1))
          have K2 := Lib.hid (fun (wx : World) (h : wx.cell? ⟨w.heap.size + 1, 0, none⟩ = some (.string ⟨#[]⟩) ∧ wx.cell? ⟨w.heap.size + 1, 1, none⟩ = some (.string ⟨#[]⟩) ∧ wx.cell? ⟨w.heap.size + 1, 2, none⟩ = some (.string ⟨#[]⟩) ∧ wx.cell? ⟨w.heap.size + 1, 3, none⟩ = some (.int .i64 0) ∧ wx.cell? ⟨w.heap.size + 1, 4, none⟩ = some (.slice none 0 0) ∧ wx.cell? ⟨w.heap.size + 1, 5, none⟩ = some (.slice none 0 0) ∧ wx.cell? ⟨w11.heap.size, 0, none⟩ = some (.string SC) ∧ wx.cell? ⟨w11.heap.size, 1, none⟩ = some (.string UN) ∧ wx.cell? ⟨w11.heap.size, 2, none⟩ = some (.string HH) ∧ wx.cell? ⟨w11.heap.size, 3, none⟩ = some (.int .i64 p) ∧ wx.cell? ⟨w11.heap.size, 4, none⟩ = some (.slice ao1 PL.length cp1) ∧ wx.cell? ⟨w11.heap.size, 5, none⟩ = some (.slice ao2 HL2.length cp2) ∧ wx.cell? ⟨w.heap.size, 0, none⟩ = some (.string ⟨#[]⟩) ∧ wx.cell? ⟨w.heap.size, 1, none⟩ = some (.string ⟨#[]⟩) ∧ wx.cell? ⟨w.heap.size, 2, none⟩ = some (.string ⟨#[]⟩) ∧ wx.cell? ⟨w.heap.size, 3, none⟩ = some (.int .i64 0) ∧ wx.cell? ⟨w.heap.size, 4, none⟩ = some (.slice none 0 0) ∧ wx.cell? ⟨w.heap.size, 5, none⟩ = some (.slice none 0 0) ∧ wx.frozen? ⟨w.heap.size, 0, none⟩ = false ∧ wx.frozen? ⟨w.heap.size, 1, none⟩ = false ∧ wx.frozen? ⟨w.heap.size, 2, none⟩ = false ∧ wx.frozen? ⟨w.heap.size, 3, none⟩ = false ∧ wx.frozen? ⟨w.heap.size, 4, none⟩ = false ∧ wx.frozen? ⟨w.heap.size, 5, none⟩ = false ∧ Blk wx w.heap.size 24 #[.string ⟨#[]⟩, .string ⟨#[]⟩, .string ⟨#[]⟩, .int .i64 0, .slice none 0 0, .slice none 0 0] ∧ RPrms wx (.slice ao1 PL.length cp1) PL ∧ RPrms wx (.slice ao2 HL2.length cp2) HL2 ∧ Below w.heap.size w wx) => (show RPrms wx (.slice ao2 HL2.length cp2) HL2 from h.2.2.2.2.2.2.2.2.2.2.2.2.2.2.2.2.2.2.2.2.2.2.2.2.2.2.1))
          have hS0 := Lib.hid (show w12.cell? ⟨w.heap.size + 1, 0, none⟩ = some (.string ⟨#[]⟩) ∧ w12.cell? ⟨w.heap.size + 1, 1, none⟩ = some (.string ⟨#[]⟩) ∧ w12.cell? ⟨w.heap.size + 1, 2, none⟩ = some (.string ⟨#[]⟩) ∧ w12.cell? ⟨w.heap.size + 1, 3, none⟩ = some (.int .i64 0) ∧ w12.cell? ⟨w.heap.size + 1, 4, none⟩ = some (.slice none 0 0) ∧ w12.cell? ⟨w.heap.size + 1, 5, none⟩ = some (.slice none 0 0) ∧ w12.cell? ⟨w11.heap.size, 0, none⟩ = some (.string SC) ∧ w12.cell? ⟨w11.heap.size, 1, none⟩ = some (.string UN) ∧ w12.cell? ⟨w11.heap.size, 2, none⟩ = some (.string HH) ∧ w12.cell? ⟨w11.heap.size, 3, none⟩ = some (.int .i64 p) ∧ w12.cell? ⟨w11.heap.size, 4, none⟩ = some (.slice ao1 PL.length cp1) ∧ w12.cell? ⟨w11.heap.size, 5, none⟩ = some (.slice ao2 HL2.length cp2) ∧ w12.cell? ⟨w.heap.size, 0, none⟩ = some (.string ⟨#[]⟩) ∧ w12.cell? ⟨w.heap.size, 1, none⟩ = some (.string ⟨#[]⟩) ∧ w12.cell? ⟨w.heap.size, 2, none⟩ = some (.string ⟨#[]⟩) ∧ w12.cell? ⟨w.heap.size, 3, none⟩ = some (.int .i64 0) ∧ w12.cell? ⟨w.heap.size, 4, none⟩ = some (.slice none 0 0) ∧ w12.cell? ⟨w.heap.size, 5, none⟩ = some (.slice none 0 0) ∧ w12.frozen? ⟨w.heap.size, 0, none⟩ = false ∧ w12.frozen? ⟨w.heap.size, 1, none⟩ = false ∧ w12.frozen? ⟨w.heap.size, 2, none⟩ = false ∧ w12.frozen? ⟨w.heap.size, 3, none⟩ = false ∧ w12.frozen? ⟨w.heap.size, 4, none⟩ = false ∧ w12.frozen? ⟨w.heap.size, 5, none⟩ = false ∧ Blk w12 w.heap.size 24 #[.string ⟨#[]⟩, .string ⟨#[]⟩, .string ⟨#[]⟩, .int .i64 0, .slice none 0 0, .slice none 0 0] ∧ RPrms w12 (.slice ao1 PL.length cp1) PL ∧ RPrms w12 (.slice ao2 HL2.length cp2) HL2 ∧ Below w.heap.size w w12 from ⟨m0, m1, m2, m3, m4, m5, y0, y1, y2, y3, y4, y5, r0, r1, r2, r3, r4, r5, g0, g1, g2, g3, g4, g5, bmR, HA1.out, HA2.out, hBB⟩)
          clear m0 m1 m2 m3 m4 m5 y0 y1 y2 y3 y4 y5 bmR bmN bx hBB hZ r0 r1 r2 r3 r4 r5 g0 g1 g2 g3 g4 g5
          skip
          have hS := Lib.hid (KC.out _ _ hS0.out ((Below.refl _ _).drew))
          obtain ⟨m0, m1, m2, m3, m4, m5, y0, y1, y2, y3, y4, y5, r0, r1, r2, r3, r4, r5, g0, g1, g2, g3, g4, g5, _, _, _, hBB⟩ := hS0.out
          clear hS0
          refine wp_region_any (by kernel_rfl) ?_
          try (change wpAny _ _ _ _ _ _ _ (World.drew _))
          refine wpAny_ready (rs := [0, 1]) (by kernel_rfl) (by simp) ?_
          refine AllReady.cons rfl (fun K hK => ?_) ?_
          ·
            go_simp
            refine hK _ _ ?_; clear hK K
            refine wpAny_ready (rs := [1]) (by kernel_rfl) (by simp) ?_
            refine AllReady.cons rfl (fun K hK => ?_) ?_
            ·
              go_simp
              refine hK _ _ ?_; clear hK K
              refine wpAny_ready (rs := [2]) (by kernel_rfl) (by simp) ?_
              refine AllReady.cons rfl (fun K hK => ?_) ?_
              ·
                refine step_wB1 rfl rfl Tryz.func119 nmCkR bdCkR rfl (HCK.out _ _ _ (K1.out _ hS.out) (K2.out _ hS.out)) ?_
                intro w13 hC13
                replace hS := Lib.hid (KC.out _ _ hS.out hC13)
                clear m0 m1 m2 m3 m4 m5 y0 y1 y2 y3 y4 y5 r0 r1 r2 r3 r4 r5 g0 g1 g2 g3 g4 g5  hBB
                obtain ⟨m0, m1, m2, m3, m4, m5, y0, y1, y2, y3, y4, y5, r0, r1, r2, r3, r4, r5, g0, g1, g2, g3, g4, g5, _, _, _, hBB⟩ := hS.out
                try go_simp
                refine hK _ _ ?_; clear hK K
                refine wpAny_ready (rs := [3]) (by kernel_rfl) (by simp) ?_
                refine AllReady.cons rfl (fun K hK => ?_) ?_
                ·
                  go_simp
                  refine hK _ _ ?_; clear hK K
                  first | (refine wpAny_take (i := 4) (v := undef) rfl (by kernel_rfl) (by kernel_rfl) (by kernel_rfl) (fun _ _ _ h => h) (Or.inr ⟨by rfl, rfl⟩) ?_) | (refine wpAny_take (i := 4) (v := ?_) rfl (by kernel_rfl) (by kernel_rfl) (by kernel_rfl) (fun _ _ _ h => h) ?_ ?_; rotate_left; focus (refine Or.inl ⟨by rfl, ?_⟩; intro _; go_simp; first | done | with_reducible rfl | (rw [if_neg (by omega)]; done) | (rw [if_neg (by omega)]; with_reducible rfl)))
                  try go_simp
                  refine wpAny_done (by kernel_rfl) ?_ _
                  go_wp2
                  refine bodyPost_ret (v := .tuple #[.agg #[.string ⟨#[]⟩, .string ⟨#[]⟩, .string ⟨#[]⟩, .int .i64 0, .slice none 0 0, .slice none 0 0], .int .i64 C]) (by simp [results, Tryz.results68, go_sem, r0, r1, r2, r3, r4, r5]) rfl ?_
                  exact ⟨_, _, by (rw [HR.out]; rfl), by (rw [HR.out]; exact .inl ⟨⟨_, _, rfl⟩, rfl⟩), by (rw [HR.out]; exact .inl ⟨⟨_, _, rfl⟩, rfl⟩), Fresh.nil _ _ _, Fresh.nil _ _ _, ((((((hBB.setCell (Nat.le_refl _) _).setCell (Nat.le_refl _) _).setCell (Nat.le_refl _) _).setCell (Nat.le_refl _) _).setCell (Nat.le_refl _) _).setCell (Nat.le_refl _) _)⟩
                exact AllReady.nil
              exact AllReady.nil
            exact AllReady.nil
          refine AllReady.cons rfl (fun K hK => ?_) ?_
          ·
            go_simp
            refine hK _ _ ?_; clear hK K
            refine wpAny_ready (rs := [0, 2]) (by kernel_rfl) (by simp) ?_
            refine AllReady.cons rfl (fun K hK => ?_) ?_
            ·
              go_simp
              refine hK _ _ ?_; clear hK K
              refine wpAny_ready (rs := [2]) (by kernel_rfl) (by simp) ?_
              refine AllReady.cons rfl (fun K hK => ?_) ?_
              ·
                refine step_wB1 rfl rfl Tryz.func119 nmCkR bdCkR rfl (HCK.out _ _ _ (K1.out _ hS.out) (K2.out _ hS.out)) ?_
                intro w13 hC13
                replace hS := Lib.hid (KC.out _ _ hS.out hC13)
                clear m0 m1 m2 m3 m4 m5 y0 y1 y2 y3 y4 y5 r0 r1 r2 r3 r4 r5 g0 g1 g2 g3 g4 g5  hBB
                obtain ⟨m0, m1, m2, m3, m4, m5, y0, y1, y2, y3, y4, y5, r0, r1, r2, r3, r4, r5, g0, g1, g2, g3, g4, g5, _, _, _, hBB⟩ := hS.out
                try go_simp
                refine hK _ _ ?_; clear hK K
                refine wpAny_ready (rs := [3]) (by kernel_rfl) (by simp) ?_
                refine AllReady.cons rfl (fun K hK => ?_) ?_
                ·
                  go_simp
                  refine hK _ _ ?_; clear hK K
                  first | (refine wpAny_take (i := 4) (v := undef) rfl (by kernel_rfl) (by kernel_rfl) (by kernel_rfl) (fun _ _ _ h => h) (Or.inr ⟨by rfl, rfl⟩) ?_) | (refine wpAny_take (i := 4) (v := ?_) rfl (by kernel_rfl) (by kernel_rfl) (by kernel_rfl) (fun _ _ _ h => h) ?_ ?_; rotate_left; focus (refine Or.inl ⟨by rfl, ?_⟩; intro _; go_simp; first | done | with_reducible rfl | (rw [if_neg (by omega)]; done) | (rw [if_neg (by omega)]; with_reducible rfl)))
                  try go_simp
                  refine wpAny_done (by kernel_rfl) ?_ _
                  go_wp2
                  refine bodyPost_ret (v := .tuple #[.agg #[.string ⟨#[]⟩, .string ⟨#[]⟩, .string ⟨#[]⟩, .int .i64 0, .slice none 0 0, .slice none 0 0], .int .i64 C]) (by simp [results, Tryz.results68, go_sem, r0, r1, r2, r3, r4, r5]) rfl ?_
                  exact ⟨_, _, by (rw [HR.out]; rfl), by (rw [HR.out]; exact .inl ⟨⟨_, _, rfl⟩, rfl⟩), by (rw [HR.out]; exact .inl ⟨⟨_, _, rfl⟩, rfl⟩), Fresh.nil _ _ _, Fresh.nil _ _ _, ((((((hBB.setCell (Nat.le_refl _) _).setCell (Nat.le_refl _) _).setCell (Nat.le_refl _) _).setCell (Nat.le_refl _) _).setCell (Nat.le_refl _) _).setCell (Nat.le_refl _) _)⟩
                exact AllReady.nil
              exact AllReady.nil
            refine AllReady.cons rfl (fun K hK => ?_) ?_
            ·
              refine step_wB1 rfl rfl Tryz.func119 nmCkR bdCkR rfl (HCK.out _ _ _ (K1.out _ hS.out) (K2.out _ hS.out)) ?_
              intro w13 hC13
              replace hS := Lib.hid (KC.out _ _ hS.out hC13)
              clear m0 m1 m2 m3 m4 m5 y0 y1 y2 y3 y4 y5 r0 r1 r2 r3 r4 r5 g0 g1 g2 g3 g4 g5  hBB
              obtain ⟨m0, m1, m2, m3, m4, m5, y0, y1, y2, y3, y4, y5, r0, r1, r2, r3, r4, r5, g0, g1, g2, g3, g4, g5, _, _, _, hBB⟩ := hS.out
              try go_simp
              refine hK _ _ ?_; clear hK K
              refine wpAny_ready (rs := [0]) (by kernel_rfl) (by simp) ?_
              refine AllReady.cons rfl (fun K hK => ?_) ?_
              ·
                go_simp
                refine hK _ _ ?_; clear hK K
                refine wpAny_ready (rs := [3]) (by kernel_rfl) (by simp) ?_
                refine AllReady.cons rfl (fun K hK => ?_) ?_
                ·
                  go_simp
                  refine hK _ _ ?_; clear hK K
                  first | (refine wpAny_take (i := 4) (v := undef) rfl (by kernel_rfl) (by kernel_rfl) (by kernel_rfl) (fun _ _ _ h => h) (Or.inr ⟨by rfl, rfl⟩) ?_) | (refine wpAny_take (i := 4) (v := ?_) rfl (by kernel_rfl) (by kernel_rfl) (by kernel_rfl) (fun _ _ _ h => h) ?_ ?_; rotate_left; focus (refine Or.inl ⟨by rfl, ?_⟩; intro _; go_simp; first | done | with_reducible rfl | (rw [if_neg (by omega)]; done) | (rw [if_neg (by omega)]; with_reducible rfl)))
                  try go_simp
                  refine wpAny_done (by kernel_rfl) ?_ _
                  go_wp2
                  refine bodyPost_ret (v := .tuple #[.agg #[.string ⟨#[]⟩, .string ⟨#[]⟩, .string ⟨#[]⟩, .int .i64 0, .slice none 0 0, .slice none 0 0], .int .i64 C]) (by simp [results, Tryz.results68, go_sem, r0, r1, r2, r3, r4, r5]) rfl ?_
                  exact ⟨_, _, by (rw [HR.out]; rfl), by (rw [HR.out]; exact .inl ⟨⟨_, _, rfl⟩, rfl⟩), by (rw [HR.out]; exact .inl ⟨⟨_, _, rfl⟩, rfl⟩), Fresh.nil _ _ _, Fresh.nil _ _ _, ((((((hBB.setCell (Nat.le_refl _) _).setCell (Nat.le_refl _) _).setCell (Nat.le_refl _) _).setCell (Nat.le_refl _) _).setCell (Nat.le_refl _) _).setCell (Nat.le_refl _) _)⟩
                exact AllReady.nil
              exact AllReady.nil
            exact AllReady.nil
          exact AllReady.nil

end Go.Proofs.YtipdiddjhimdcaaGreatDoor

