/- Contracts of Go functions, and plain laws. No condition but those told. -/
import Derived.Test.YtipdiddjhimdcaaGreatDoorR14
import Derived.Test.YtipdiddjhimdcaaGreatDoorR10
import Derived.Test.YtipdiddjhimdcaaGreatDoorR08
set_option linter.unusedSimpArgs false
set_option linter.unusedVariables false
set_option maxRecDepth 100000
namespace Go.Proofs.YtipdiddjhimdcaaGreatDoor
open Go.RowKit Go.Sort
theorem printM_no (m : Mg) (h : checkS m ≠ 0) : printM m = ([], checkS m) := by unfold printM; rw [if_pos h]
theorem printM_long (m : Mg) (h : checkS m = 0) (h2 : 4096 < (textM m).length) : printM m = ([], 2) := by unfold printM; rw [if_neg (fun e => e h), if_pos h2]
theorem printM_yes (m : Mg) (h : checkS m = 0) (h2 : ¬ 4096 < (textM m).length) : printM m = (textM m, 0) := by unfold printM; rw [if_neg (fun e => e h), if_neg h2]
theorem check_len (m : Mg) (h : checkS m = 0) : m.hdrs.length ≤ 64 := by
 unfold checkS at h
 by_cases h1 : firstS m = false
 ·rw [if_pos h1] at h; exact absurd h (by decide)
 ·rw [if_neg h1] at h
  by_cases h2 : 64 < m.hdrs.length
  ·rw [if_pos h2] at h; exact absurd h (by decide)
  ·omega
theorem lineH_len (h : Hdr) : (lineH h).length = h.name.length + h.value.length + 4 := by unfold lineH; simp; omega
theorem flatH_le : ∀ (L : List Hdr), (∀ h ∈ L, h.name.length ≤ 1073741824 ∧ h.value.length ≤ 1073741824) → (L.flatMap lineH).length ≤ L.length * 2147483652
 | [], _ => Nat.zero_le _
 | h :: r, hb => by
  have h1 := flatH_le r (fun x hx => hb x (List.mem_cons_of_mem _ hx))
  have h2 := hb h (List.mem_cons_self ..)
  rw [List.flatMap_cons, List.length_append, lineH_len, List.length_cons]
  omega
theorem flatH_next (H : List Hdr) (k : Nat) (h : k < H.length) : (H.take (k + 1)).flatMap lineH = (H.take k).flatMap lineH ++ lineH H[k] := by
 rw [List.take_succ_eq_append_getElem h, List.flatMap_append]; simp
theorem startL_m (m : Mg) (h : ¬ m.method = []) : startL m ++ [13, 10] = m.method ++ (32 :: (m.target ++ (32 :: (ver ++ [13, 10])))) := by
 unfold startL; rw [if_neg h]; simp
theorem startL_r (m : Mg) (h : m.method = []) : startL m ++ [13, 10] = ver ++ (32 :: (digits m.status ++ (32 :: (m.reason ++ [13, 10])))) := by
 unfold startL; rw [if_pos h]; simp
theorem textM_eq (m : Mg) : textM m = (startL m ++ [13, 10]) ++ (m.hdrs.take m.hdrs.length).flatMap lineH ++ (nCLen ++ (58 :: 32 :: (digits m.body.length ++ (13 :: 10 :: 13 :: 10 :: m.body)))) := by
 unfold textM tailT; rw [List.take_length]; simp
theorem cutk {G : Prop} {A : World → Prop} (Q : World → Prop) (h : (∀ w, A w → Q w) → G) (k : ∀ w, A w → Q w) : G := h k
theorem us_cat (a b : ByteArray) : us (a ++ b) = us a ++ us b := us_append a b
theorem size_cat (a b : ByteArray) : (a ++ b).size = a.size + b.size := by rw [← length_us, us_cat, List.length_append, length_us, length_us]
theorem bld_writeX (B b : Nat) (l : List UInt8) (s : ByteArray) (w : World) (h : Bld B b l w) (hlen : l.length + s.size ≤ 140737488355328) (hBw : B ≤ w.heap.size) :
  Calls Tryz.prog 84 #[.pointer (some ⟨b, 0, none⟩), .string s] w fun e w' => ∃ v, e = .returned v ∧ (v = .tuple #[.int .i64 s.size, .nilIface] ∧ Bld B b (l ++ us s) w' ∧ Below B w w') :=
 (bld_write B b l s w h hlen hBw).mono fun _ _ ⟨x, y⟩ => ⟨_, x, rfl, y⟩
theorem startM_us (M T : ByteArray) (x : Int) (R : List UInt8) (L : List Hdr) (B : List UInt8) (h : ¬ us M = []) : us (M ++ ⟨#[32]⟩ ++ T ++ ⟨#[32]⟩ ++ ⟨#[83, 73, 80, 47, 50, 46, 48]⟩ ++ ⟨#[13, 10]⟩) = startL ⟨us M, us T, x, R, L, B⟩ ++ [13, 10] := by
 rw [startL_m _ h]; simp only [us_cat]; simp [us, ver]
theorem startR_us (M d R : ByteArray) (T : List UInt8) (x : Int) (L : List Hdr) (B : List UInt8) (h : us M = []) (hd : us d = digits x) : us (⟨#[83, 73, 80, 47, 50, 46, 48, 32]⟩ ++ d ++ ⟨#[32]⟩ ++ R ++ ⟨#[13, 10]⟩) = startL ⟨us M, T, x, us R, L, B⟩ ++ [13, 10] := by
 rw [startL_r _ h]; simp only [us_cat]; rw [hd]; simp [us, ver]
theorem lineH_us (N V : ByteArray) (h : Hdr) (hN : us N = h.name) (hV : us V = h.value) : us (N ++ ⟨#[58, 32]⟩ ++ V ++ ⟨#[13, 10]⟩) = lineH h := by
 simp only [us_cat]; rw [hN, hV]; simp [us, lineH]
theorem tail_us (d B : ByteArray) (n : Int) (hd : us d = digits n) (hn : n = (us B).length) : us (⟨#[67, 111, 110, 116, 101, 110, 116, 45, 76, 101, 110, 103, 116, 104, 58, 32]⟩ ++ d ++ ⟨#[13, 10, 13, 10]⟩ ++ B) = nCLen ++ (58 :: 32 :: (digits (us B).length ++ (13 :: 10 :: 13 :: 10 :: us B))) := by
 simp only [us_cat]; rw [hd, hn]; simp [us, nCLen]
theorem nmDg : (Tryz.f83.name == "runtime.NumGoroutine") = false := by kernel_rfl
theorem bdDg : Tryz.f83.body.isNone = false := by kernel_rfl
theorem nmWs : (Tryz.f84.name == "runtime.NumGoroutine") = false := by kernel_rfl
theorem bdWs : Tryz.f84.body.isNone = false := by kernel_rfl
set_option maxHeartbeats 12800000 in
theorem printF_c (M T R B : ByteArray) (x : Int) (u : Value) (H : List Hdr) (hM : M.size ≤ 1073741824) (hT : T.size ≤ 1073741824) (hR : R.size ≤ 1073741824) (hBs : B.size ≤ 1073741824) (x0 : -9223372036854775808 ≤ x) (x1 : x ≤ 9223372036854775807) (w : World) (hu : RHdrs w u H)
  (hb : ∀ h ∈ H, h.name.length ≤ 1073741824 ∧ h.value.length ≤ 1073741824) :
  Calls Tryz.prog 42 #[.agg #[.string M, .string T, .int .i64 x, .string R, u, .string B]] w fun e w' => e = .returned (.tuple #[.string (bs (printM ⟨us M, us T, x, us R, H, us B⟩).1), .int .i64 (printM ⟨us M, us T, x, us R, H, us B⟩).2]) ∧ Below w.heap.size w w' := by
 obtain ⟨ao, cap, rfl, hm1, c1⟩ := hu.form
 unfold maxLen at hm1
 have C1 := κ c1
 have HBD := κ hb
 have HC := κ (fun wx (hx : Below w.heap.size w wx) => check_c M T R B x (.slice ao H.length cap) H (by omega) (by omega) (by omega) wx (hu.below hx (ρ _)) (fun h hh => by have := hb h hh; omega))
 have hno := printM_no ⟨us M, us T, x, us R, H, us B⟩
 have hlo := printM_long ⟨us M, us T, x, us R, H, us B⟩
 have hye := printM_yes ⟨us M, us T, x, us R, H, us B⟩
 have hcl := check_len ⟨us M, us T, x, us R, H, us B⟩
 have htx := textM_eq ⟨us M, us T, x, us R, H, us B⟩
 have hsm := startL_m ⟨us M, us T, x, us R, H, us B⟩
 have hsr := startL_r ⟨us M, us T, x, us R, H, us B⟩
 clear c1 hu hb
 have hB0 : Below w.heap.size w (w.alloc (.cells #[.string M, .string T, .int .i64 x, .string R, .slice ao H.length cap, .string B] 45)) := (Below.refl _ _).alloc (ρ _) _
 obtain ⟨w0, hw0⟩ : ∃ w0, w0 = w.alloc (.cells #[.string M, .string T, .int .i64 x, .string R, .slice ao H.length cap, .string B] 45) := ⟨_, rfl⟩
 have bm : Blk w0 w.heap.size 45 #[.string M, .string T, .int .i64 x, .string R, .slice ao H.length cap, .string B] := by rw [hw0]; exact Blk.new _ _ _
 rw [← hw0] at hB0
 have HW0 := κ hw0.symm
 clear hw0
 obtain ⟨_, _, _, _, _, _, f0, f1, f2, f3, f4, f5, z2⟩ := bm.g6
 have h32 : (⟨#[32]⟩ : ByteArray).size = 1 := rfl
 have hcr : (⟨#[13, 10]⟩ : ByteArray).size = 2 := rfl
 have hver : (⟨#[83, 73, 80, 47, 50, 46, 48]⟩ : ByteArray).size = 7 := rfl
 have hver2 : (⟨#[83, 73, 80, 47, 50, 46, 48, 32]⟩ : ByteArray).size = 8 := rfl
 have hcln : (⟨#[67, 111, 110, 116, 101, 110, 116, 45, 76, 101, 110, 103, 116, 104, 58, 32]⟩ : ByteArray).size = 16 := rfl
 have hcr4 : (⟨#[13, 10, 13, 10]⟩ : ByteArray).size = 4 := rfl
 have hcol : (⟨#[58, 32]⟩ : ByteArray).size = 2 := rfl
 obtain ⟨C, hCd⟩ : ∃ C, C = checkS ⟨us M, us T, x, us R, H, us B⟩ := ⟨_, rfl⟩
 rw [← hCd] at HC hno hlo hye hcl
 by_cases hc0 : C = 0
 case neg =>
  have HE := κ (hno hc0)
  have t0 : (C != 0) = true := by simpa using hc0
  clear hno hlo hye hcl htx hsm hsr hCd hc0
  go_enter Tryz.func42, Tryz.ntmps42
  go_wp2_with (go_at_call 89; rw [HW0.out]; refine (HC.out _ hB0).mono ?_; rintro e w1 ⟨rfl, hC⟩)
  go_ret2
  exact ⟨by rw [HE.out]; rfl, hB0.trans (hC.mono hB0.size)⟩
 subst hc0
 have h64 := hcl rfl
 have HLO := κ (hlo rfl)
 have HYE := κ (hye rfl)
 have htl := fun d => tail_us d B (B.size : Int)
 have HTX := κ htx
 have D1 := κ (fun wx => digits_c x x0 x1 wx)
 have D2 := κ (fun wx => digits_c (B.size : Int) (by omega) (by omega) wx)
 have l1 : (bs (digits x)).size ≤ 20 := by rw [size_bs]; exact digits_len x
 have l2 : (bs (digits (B.size : Int))).size ≤ 20 := by rw [size_bs]; exact digits_len (B.size : Int)
 have uB : (B.size : Int) = ((us B).length : Int) := by rw [length_us]
 have u1 := us_bs (digits x)
 have u2 := us_bs (digits (B.size : Int))
 obtain ⟨d1, hd1⟩ : ∃ d, d = bs (digits x) := ⟨_, rfl⟩
 obtain ⟨d2, hd2⟩ : ∃ d, d = bs (digits (B.size : Int)) := ⟨_, rfl⟩
 rw [← hd1] at D1 l1 u1
 rw [← hd2] at D2 l2 u2
 clear hd1 hd2 hcl hno hlo hye htx hsm hsr hCd
 have hmz : us M = [] ↔ M.size = 0 := by rw [← length_us, List.length_eq_zero_iff]
 by_cases hmm : M.size = 0
 case neg =>
  have HST := κ (startM_us M T x (us R) H (us B) (fun e => hmm (hmz.1 e)))
  have pE := ne_empty hmm
  have pF := isEmpty_f hmm
  clear hmz hmm
  go_enter Tryz.func42, Tryz.ntmps42
  go_wp2_with (first | (go_at_call 89; rw [HW0.out]; refine (HC.out _ hB0).mono ?_; rintro e w1 ⟨rfl, hC⟩; have hb1 := bm.call hC; have hBld := Bld.new (heap_alloc_new w1 (.cells #[.pointer none, .slice none 0 0] 142)) (ρ _); have hBn : Below w1.heap.size w1 (w1.alloc (.cells #[.pointer none, .slice none 0 0] 142)) := (Below.refl _ _).alloc (ρ _) _; obtain ⟨m0, m1, m2, m3, m4, m5, g0, g1, g2, g3, g4, g5, z3⟩ := (hb1.alloc (.cells #[.pointer none, .slice none 0 0] 142)).g6) | (go_at_call 84; ((with_reducible refine (bld_write w1.heap.size w1.heap.size [] _ _ hBld ?_ ?_).mono ?_); (focus (simp only [size_cat, h32, hcr, hver, List.length_nil]; omega)); (focus (simp only [World.size_alloc]; omega)); rintro e w3 ⟨rfl, hW, hB3'⟩; have hB3 := hBn.trans hB3'; obtain ⟨n0, n1, n2, n3, n4, n5, _⟩ := (hb1.call hB3).g6)))
  obtain ⟨ST, hSTd⟩ : ∃ ST, ST = us (M ++ ⟨#[32]⟩ ++ T ++ ⟨#[32]⟩ ++ ⟨#[83, 73, 80, 47, 50, 46, 48]⟩ ++ ⟨#[13, 10]⟩) := ⟨_, rfl⟩
  rw [List.nil_append, ← hSTd] at hW
  rw [← hSTd] at HST
  have hSTl : ST.length ≤ 4294967296 := by rw [hSTd, length_us]; simp only [size_cat, h32, hcr, hver]; omega
  clear hSTd
  have M4 := κ (fun (wx : World) (h : Below w1.heap.size w1 wx) => (boxedCell (hb1.call h) 5 : wx.cell? ⟨w.heap.size, 5, none⟩ = some (.string B)))
  have hBw1 : Below w.heap.size w w1 := hB0.trans (hC.mono hB0.size)
  go_loopw [39] (fun i wr => ∃ (k : Nat) (L : List UInt8), k ≤ H.length ∧ i = .int .i64 k ∧ L = ST ++ (H.take k).flatMap lineH ∧ Bld w1.heap.size w1.heap.size L wr ∧ Below w1.heap.size w1 wr) (fun i _ => H.length - (intOf i).toNat)
  case atStart => exact ⟨0, ST, Nat.zero_le _, rfl, by simp, hW, hB3⟩
  case round =>
   obtain ⟨k, L, hk, rfl, hL, hWr, hBr⟩ := hrel
   have hBw : Below w.heap.size w wr := hBw1.trans (hBr.mono hBw1.size)
   by_cases hlt : k < H.length
   ·obtain ⟨b, off, rfl, hbl, hc1⟩ := C1.out (by omega)
    obtain ⟨hbn, hbv⟩ := HBD.out _ (List.getElem_mem hlt)
    obtain ⟨N, hN⟩ : ∃ N, N = bs H[k].name := ⟨_, rfl⟩
    obtain ⟨V, hV⟩ : ∃ N, N = bs H[k].value := ⟨_, rfl⟩
    have x0 : wr.cell? ⟨b, off + k * 2, none⟩ = some (.string N) := by
     rw [hBw.cell (p := ⟨b, off + k * 2, none⟩) hbl, hN]; exact (hc1 k hlt).1
    have x1 : wr.cell? ⟨b, off + k * 2 + 1, none⟩ = some (.string V) := by
     rw [hBw.cell (p := ⟨b, off + k * 2 + 1, none⟩) hbl, hV]; exact (hc1 k hlt).2
    have hNs : N.size ≤ 1073741824 := by rw [hN, size_bs]; exact hbn
    have hVs : V.size ≤ 1073741824 := by rw [hV, size_bs]; exact hbv
    have k0 : (0 : Int) ≤ (k : Int) := by omega
    have k1 : (k : Int) < (H.length : Int) := by omega
    have hfl := flatH_le (H.take k) (fun h hh => HBD.out h (List.mem_of_mem_take hh))
    rw [List.length_take, Nat.min_eq_left (by omega)] at hfl
    have hln := lineH_us N V H[k] (by rw [hN, us_bs]) (by rw [hV, us_bs])
    have hnx := flatH_next H k hlt
    rw [← hln] at hnx
    have W0 : (wr.alloc (.cells #[.string N, .string V] 68)).cell? ⟨wr.heap.size, 0, none⟩ = some (.string N) := boxedCell (heap_alloc_new wr _) 0
    have W1 : (wr.alloc (.cells #[.string N, .string V] 68)).cell? ⟨wr.heap.size, 1, none⟩ = some (.string V) := boxedCell (heap_alloc_new wr _) 1
    have hWa := hWr.below ((Below.refl _ _).alloc (ρ _) (.cells #[.string N, .string V] 68))
    have hBa := hBr.alloc hBr.size (.cells #[.string N, .string V] 68)
    have hlen : L.length + (N ++ ⟨#[58, 32]⟩ ++ V ++ ⟨#[13, 10]⟩).size ≤ 140737488355328 := by
     have : L.length = ST.length + ((H.take k).flatMap lineH).length := by rw [hL, List.length_append]
     simp only [size_cat, hcr, hcol]; omega
    have HNX := κ (show L ++ us (N ++ ⟨#[58, 32]⟩ ++ V ++ ⟨#[13, 10]⟩) = ST ++ (H.take (k + 1)).flatMap lineH by rw [hL, hnx, List.append_assoc])
    clear hN hV hc1 hbl hbn hbv hfl hln hnx hL
    go_wp2_with (go_at_call 84; (with_reducible refine (bld_write w1.heap.size w1.heap.size L _ _ hWa hlen hBa.size).mono ?_); rintro e w5 ⟨rfl, hW5, hB5⟩)
    go_roundw
    case rel => exact ⟨k + 1, _, by omega, by go_num, HNX.out, hW5, hBa.trans hB5⟩
    case measure => simp [intOf]; omega
   ·have hkl : ¬ ((k : Int) < (H.length : Int)) := by omega
    have hk' : k = H.length := by omega
    have hfl := flatH_le H (fun h hh => HBD.out h hh)
    have hLl : L.length ≤ 4294967296 + H.length * 2147483652 := by rw [hL, hk', List.take_length, List.length_append]; omega
    have hfin : L ++ us (⟨#[67, 111, 110, 116, 101, 110, 116, 45, 76, 101, 110, 103, 116, 104, 58, 32]⟩ ++ d2 ++ ⟨#[13, 10, 13, 10]⟩ ++ B) = textM ⟨us M, us T, x, us R, H, us B⟩ := by rw [HTX.out, hL, hk', htl d2 u2 uB, HST.out]
    have hlen : L.length + (⟨#[67, 111, 110, 116, 101, 110, 116, 45, 76, 101, 110, 103, 116, 104, 58, 32]⟩ ++ d2 ++ ⟨#[13, 10, 13, 10]⟩ ++ B).size ≤ 140737488355328 := by simp only [size_cat, hcln, hcr4]; omega
    obtain ⟨TX, hTX⟩ : ∃ TX, TX = textM ⟨us M, us T, x, us R, H, us B⟩ := ⟨_, rfl⟩
    rw [← hTX] at hfin HLO HYE
    have HFIN := κ hfin
    clear hfin hL hfl hLl hTX HTX hk'
    have hBc := hBr.drew
    have hWc := hWr.below ((Below.refl _ _).drew)
    have e5 := M4.out _ hBc
    go_wp2
    refine cutk (A := fun w6 => Bld w1.heap.size w1.heap.size (L ++ us (⟨#[67, 111, 110, 116, 101, 110, 116, 45, 76, 101, 110, 103, 116, 104, 58, 32]⟩ ++ d2 ++ ⟨#[13, 10, 13, 10]⟩ ++ B)) w6 ∧ Below w1.heap.size w1 w6) ?_ (fun key => ?_) ?_
    rotate_left
    ·refine wp_region_any (by kernel_rfl) ?_
     try (change wpAny _ _ _ _ _ _ _ (World.drew _))
     first | refine tkU 0 ?_ | refine tkV 0 ?_
     try go_simp
     first | refine tkU 6 ?_ | refine tkV 6 ?_
     try go_simp
     refine wpAny_ready (rs := [1, 7]) (by kernel_rfl) (by simp) ?_
     refine AllReady.cons rfl (fun K hK => ?_) ?_
     ·
      go_simp
      refine hK _ _ ?_; clear hK K
      refine wpAny_ready (rs := [2, 7]) (by kernel_rfl) (by simp) ?_
      refine AllReady.cons rfl (fun K hK => ?_) ?_
      ·
       go_simp
       refine hK _ _ ?_; clear hK K
       refine wpAny_ready (rs := [3, 7]) (by kernel_rfl) (by simp) ?_
       refine AllReady.cons rfl (fun K hK => ?_) ?_
       ·
        refine step_wB1 rfl rfl Tryz.func83 nmDg bdDg rfl (D2.out _) ?_
        intro wd hCd
        replace hWc := hWc.below hCd
        replace hBc := hBc.trans (hCd.mono hBc.size)
        replace e5 := M4.out _ hBc
        try go_simp
        refine hK _ _ ?_; clear hK K
        first | refine tkU 4 ?_ | refine tkV 4 ?_
        try go_simp
        first | refine tkU 5 ?_ | refine tkV 5 ?_
        try go_simp
        refine rdyA 7 (fun K hK => ?_)
        go_simp
        refine hK _ _ ?_; clear hK K
        first | refine tkU 8 ?_ | refine tkV 8 ?_
        try go_simp
        refine rdyA 9 (fun K hK => ?_)
        refine step_wX2 (v0 := .pointer (some ⟨w1.heap.size, 0, none⟩)) (v1 := .string (⟨#[67, 111, 110, 116, 101, 110, 116, 45, 76, 101, 110, 103, 116, 104, 58, 32]⟩ ++ d2 ++ ⟨#[13, 10, 13, 10]⟩ ++ B)) rfl rfl Tryz.func84 nmWs bdWs rfl rfl (bld_writeX w1.heap.size w1.heap.size L _ _ hWc hlen hBc.size) ?_
        intro vx w6 hX
        obtain ⟨rfl, hW6, hB6⟩ := hX
        try go_simp
        refine hK _ _ ?_; clear hK K
        refine wpAny_done (by kernel_rfl) ?_ _
        exact key _ ⟨hW6, hBc.trans hB6⟩
       refine AllReady.cons rfl (fun K hK => ?_) ?_
       ·
        go_simp
        refine hK _ _ ?_; clear hK K
        refine rdyA 3 (fun K hK => ?_)
        refine step_wB1 rfl rfl Tryz.func83 nmDg bdDg rfl (D2.out _) ?_
        intro wd hCd
        replace hWc := hWc.below hCd
        replace hBc := hBc.trans (hCd.mono hBc.size)
        replace e5 := M4.out _ hBc
        try go_simp
        refine hK _ _ ?_; clear hK K
        first | refine tkU 4 ?_ | refine tkV 4 ?_
        try go_simp
        first | refine tkU 5 ?_ | refine tkV 5 ?_
        try go_simp
        first | refine tkU 8 ?_ | refine tkV 8 ?_
        try go_simp
        refine rdyA 9 (fun K hK => ?_)
        refine step_wX2 (v0 := .pointer (some ⟨w1.heap.size, 0, none⟩)) (v1 := .string (⟨#[67, 111, 110, 116, 101, 110, 116, 45, 76, 101, 110, 103, 116, 104, 58, 32]⟩ ++ d2 ++ ⟨#[13, 10, 13, 10]⟩ ++ B)) rfl rfl Tryz.func84 nmWs bdWs rfl rfl (bld_writeX w1.heap.size w1.heap.size L _ _ hWc hlen hBc.size) ?_
        intro vx w6 hX
        obtain ⟨rfl, hW6, hB6⟩ := hX
        try go_simp
        refine hK _ _ ?_; clear hK K
        refine wpAny_done (by kernel_rfl) ?_ _
        exact key _ ⟨hW6, hBc.trans hB6⟩
       exact AllReady.nil
      refine AllReady.cons rfl (fun K hK => ?_) ?_
      ·
       go_simp
       refine hK _ _ ?_; clear hK K
       refine rdyA 2 (fun K hK => ?_)
       go_simp
       refine hK _ _ ?_; clear hK K
       refine rdyA 3 (fun K hK => ?_)
       refine step_wB1 rfl rfl Tryz.func83 nmDg bdDg rfl (D2.out _) ?_
       intro wd hCd
       replace hWc := hWc.below hCd
       replace hBc := hBc.trans (hCd.mono hBc.size)
       replace e5 := M4.out _ hBc
       try go_simp
       refine hK _ _ ?_; clear hK K
       first | refine tkU 4 ?_ | refine tkV 4 ?_
       try go_simp
       first | refine tkU 5 ?_ | refine tkV 5 ?_
       try go_simp
       first | refine tkU 8 ?_ | refine tkV 8 ?_
       try go_simp
       refine rdyA 9 (fun K hK => ?_)
       refine step_wX2 (v0 := .pointer (some ⟨w1.heap.size, 0, none⟩)) (v1 := .string (⟨#[67, 111, 110, 116, 101, 110, 116, 45, 76, 101, 110, 103, 116, 104, 58, 32]⟩ ++ d2 ++ ⟨#[13, 10, 13, 10]⟩ ++ B)) rfl rfl Tryz.func84 nmWs bdWs rfl rfl (bld_writeX w1.heap.size w1.heap.size L _ _ hWc hlen hBc.size) ?_
       intro vx w6 hX
       obtain ⟨rfl, hW6, hB6⟩ := hX
       try go_simp
       refine hK _ _ ?_; clear hK K
       refine wpAny_done (by kernel_rfl) ?_ _
       exact key _ ⟨hW6, hBc.trans hB6⟩
      exact AllReady.nil
     refine AllReady.cons rfl (fun K hK => ?_) ?_
     ·
      go_simp
      refine hK _ _ ?_; clear hK K
      refine rdyA 1 (fun K hK => ?_)
      go_simp
      refine hK _ _ ?_; clear hK K
      refine rdyA 2 (fun K hK => ?_)
      go_simp
      refine hK _ _ ?_; clear hK K
      refine rdyA 3 (fun K hK => ?_)
      refine step_wB1 rfl rfl Tryz.func83 nmDg bdDg rfl (D2.out _) ?_
      intro wd hCd
      replace hWc := hWc.below hCd
      replace hBc := hBc.trans (hCd.mono hBc.size)
      replace e5 := M4.out _ hBc
      try go_simp
      refine hK _ _ ?_; clear hK K
      first | refine tkU 4 ?_ | refine tkV 4 ?_
      try go_simp
      first | refine tkU 5 ?_ | refine tkV 5 ?_
      try go_simp
      first | refine tkU 8 ?_ | refine tkV 8 ?_
      try go_simp
      refine rdyA 9 (fun K hK => ?_)
      refine step_wX2 (v0 := .pointer (some ⟨w1.heap.size, 0, none⟩)) (v1 := .string (⟨#[67, 111, 110, 116, 101, 110, 116, 45, 76, 101, 110, 103, 116, 104, 58, 32]⟩ ++ d2 ++ ⟨#[13, 10, 13, 10]⟩ ++ B)) rfl rfl Tryz.func84 nmWs bdWs rfl rfl (bld_writeX w1.heap.size w1.heap.size L _ _ hWc hlen hBc.size) ?_
      intro vx w6 hX
      obtain ⟨rfl, hW6, hB6⟩ := hX
      try go_simp
      refine hK _ _ ?_; clear hK K
      refine wpAny_done (by kernel_rfl) ?_ _
      exact key _ ⟨hW6, hBc.trans hB6⟩
     exact AllReady.nil
    rintro w6 ⟨hW6, hB7⟩
    rw [HFIN.out] at hW6
    by_cases h4 : 4096 < TX.length
    ·have HE := κ (HLO.out h4)
     have t4 : (4096 : Int) < (TX.length : Int) := by omega
     clear h4
     go_wp2_with (go_at_call 90; refine (bld_len _ _ TX _ hW6).mono ?_; rintro e wx ⟨rfl, rfl⟩)
     go_ret2
     exact ⟨by rw [HE.out]; rfl, hBw1.trans (hB7.mono hBw1.size)⟩
    ·have HE := κ (HYE.out h4)
     have t4 : ¬ ((4096 : Int) < (TX.length : Int)) := by omega
     clear h4
     go_wp2_with (first | (go_at_call 90; refine (bld_len _ _ TX _ hW6).mono ?_; rintro e wx ⟨rfl, rfl⟩) | (go_at_call 87; refine (bld_str _ _ TX _ hW6 hB7.size).mono ?_; rintro e w8 ⟨rfl, hB8⟩))
     go_ret2
     exact ⟨by rw [HE.out]; rfl, hBw1.trans ((hB7.trans hB8).mono hBw1.size)⟩
 ·have HST := κ (startR_us M d1 R (us T) x H (us B) (hmz.2 hmm) u1)
  obtain rfl : M = ⟨#[]⟩ := eq_empty hmm
  clear hmz hmm
  go_enter Tryz.func42, Tryz.ntmps42
  go_wp2_with ((go_at_call 89; rw [HW0.out]; refine (HC.out _ hB0).mono ?_; rintro e w1 ⟨rfl, hC⟩; have hb1 := bm.call hC; have hBld := Bld.new (heap_alloc_new w1 (.cells #[.pointer none, .slice none 0 0] 142)) (ρ _); have hBn : Below w1.heap.size w1 (w1.alloc (.cells #[.pointer none, .slice none 0 0] 142)) := (Below.refl _ _).alloc (ρ _) _; obtain ⟨m0, m1, m2, m3, m4, m5, g0, g1, g2, g3, g4, g5, z3⟩ := (hb1.alloc (.cells #[.pointer none, .slice none 0 0] 142)).g6))
  have M2 := κ (fun (wx : World) (h : Below w1.heap.size w1 wx) => (boxedCell (hb1.call h) 2 : wx.cell? ⟨w.heap.size, 2, none⟩ = some (.int .i64 x)))
  have M3 := κ (fun (wx : World) (h : Below w1.heap.size w1 wx) => (boxedCell (hb1.call h) 3 : wx.cell? ⟨w.heap.size, 3, none⟩ = some (.string R)))
  have hBc := hBn.drew
  have hWc := hBld.below ((Below.refl _ _).drew)
  have e2 := M2.out _ hBc
  have e3 := M3.out _ hBc
  clear m0 m1 m2 m3 m4 m5 g0 g1 g2 g3 g4 g5
  refine cutk (A := fun w3 => Bld w1.heap.size w1.heap.size ([] ++ us (⟨#[83, 73, 80, 47, 50, 46, 48, 32]⟩ ++ d1 ++ ⟨#[32]⟩ ++ R ++ ⟨#[13, 10]⟩)) w3 ∧ Below w1.heap.size w1 w3) ?_ (fun key => ?_) ?_
  rotate_left
  ·refine wp_region_any (by kernel_rfl) ?_
   try (change wpAny _ _ _ _ _ _ _ (World.drew _))
   first | refine tkU 0 ?_ | refine tkV 0 ?_
   try go_simp
   first | refine tkU 5 ?_ | refine tkV 5 ?_
   try go_simp
   refine wpAny_ready (rs := [1, 6]) (by kernel_rfl) (by simp) ?_
   refine AllReady.cons rfl (fun K hK => ?_) ?_
   ·
    go_simp
    refine hK _ _ ?_; clear hK K
    refine wpAny_ready (rs := [2, 6]) (by kernel_rfl) (by simp) ?_
    refine AllReady.cons rfl (fun K hK => ?_) ?_
    ·
     refine step_wB1 rfl rfl Tryz.func83 nmDg bdDg rfl (D1.out _) ?_
     intro wd hCd
     replace hWc := hWc.below hCd
     replace hBc := hBc.trans (hCd.mono hBc.size)
     replace e2 := M2.out _ hBc
     replace e3 := M3.out _ hBc
     try go_simp
     refine hK _ _ ?_; clear hK K
     first | refine tkU 3 ?_ | refine tkV 3 ?_
     try go_simp
     first | refine tkU 4 ?_ | refine tkV 4 ?_
     try go_simp
     refine rdyA 6 (fun K hK => ?_)
     go_simp
     refine hK _ _ ?_; clear hK K
     first | refine tkU 7 ?_ | refine tkV 7 ?_
     try go_simp
     first | refine tkU 8 ?_ | refine tkV 8 ?_
     try go_simp
     refine rdyA 9 (fun K hK => ?_)
     refine step_wX2 (v0 := .pointer (some ⟨w1.heap.size, 0, none⟩)) (v1 := .string (⟨#[83, 73, 80, 47, 50, 46, 48, 32]⟩ ++ d1 ++ ⟨#[32]⟩ ++ R ++ ⟨#[13, 10]⟩)) rfl rfl Tryz.func84 nmWs bdWs rfl rfl (bld_writeX w1.heap.size w1.heap.size [] _ _ hWc (by simp only [size_cat, h32, hcr, hver2, List.length_nil]; omega) hBc.size) ?_
     intro vx w3 hX
     obtain ⟨rfl, hW, hB3'⟩ := hX
     try go_simp
     refine hK _ _ ?_; clear hK K
     refine wpAny_done (by kernel_rfl) ?_ _
     exact key _ ⟨hW, hBc.trans hB3'⟩
    refine AllReady.cons rfl (fun K hK => ?_) ?_
    ·
     go_simp
     refine hK _ _ ?_; clear hK K
     refine rdyA 2 (fun K hK => ?_)
     refine step_wB1 rfl rfl Tryz.func83 nmDg bdDg rfl (D1.out _) ?_
     intro wd hCd
     replace hWc := hWc.below hCd
     replace hBc := hBc.trans (hCd.mono hBc.size)
     replace e2 := M2.out _ hBc
     replace e3 := M3.out _ hBc
     try go_simp
     refine hK _ _ ?_; clear hK K
     first | refine tkU 3 ?_ | refine tkV 3 ?_
     try go_simp
     first | refine tkU 4 ?_ | refine tkV 4 ?_
     try go_simp
     first | refine tkU 7 ?_ | refine tkV 7 ?_
     try go_simp
     first | refine tkU 8 ?_ | refine tkV 8 ?_
     try go_simp
     refine rdyA 9 (fun K hK => ?_)
     refine step_wX2 (v0 := .pointer (some ⟨w1.heap.size, 0, none⟩)) (v1 := .string (⟨#[83, 73, 80, 47, 50, 46, 48, 32]⟩ ++ d1 ++ ⟨#[32]⟩ ++ R ++ ⟨#[13, 10]⟩)) rfl rfl Tryz.func84 nmWs bdWs rfl rfl (bld_writeX w1.heap.size w1.heap.size [] _ _ hWc (by simp only [size_cat, h32, hcr, hver2, List.length_nil]; omega) hBc.size) ?_
     intro vx w3 hX
     obtain ⟨rfl, hW, hB3'⟩ := hX
     try go_simp
     refine hK _ _ ?_; clear hK K
     refine wpAny_done (by kernel_rfl) ?_ _
     exact key _ ⟨hW, hBc.trans hB3'⟩
    exact AllReady.nil
   refine AllReady.cons rfl (fun K hK => ?_) ?_
   ·
    go_simp
    refine hK _ _ ?_; clear hK K
    refine rdyA 1 (fun K hK => ?_)
    go_simp
    refine hK _ _ ?_; clear hK K
    refine rdyA 2 (fun K hK => ?_)
    refine step_wB1 rfl rfl Tryz.func83 nmDg bdDg rfl (D1.out _) ?_
    intro wd hCd
    replace hWc := hWc.below hCd
    replace hBc := hBc.trans (hCd.mono hBc.size)
    replace e2 := M2.out _ hBc
    replace e3 := M3.out _ hBc
    try go_simp
    refine hK _ _ ?_; clear hK K
    first | refine tkU 3 ?_ | refine tkV 3 ?_
    try go_simp
    first | refine tkU 4 ?_ | refine tkV 4 ?_
    try go_simp
    first | refine tkU 7 ?_ | refine tkV 7 ?_
    try go_simp
    first | refine tkU 8 ?_ | refine tkV 8 ?_
    try go_simp
    refine rdyA 9 (fun K hK => ?_)
    refine step_wX2 (v0 := .pointer (some ⟨w1.heap.size, 0, none⟩)) (v1 := .string (⟨#[83, 73, 80, 47, 50, 46, 48, 32]⟩ ++ d1 ++ ⟨#[32]⟩ ++ R ++ ⟨#[13, 10]⟩)) rfl rfl Tryz.func84 nmWs bdWs rfl rfl (bld_writeX w1.heap.size w1.heap.size [] _ _ hWc (by simp only [size_cat, h32, hcr, hver2, List.length_nil]; omega) hBc.size) ?_
    intro vx w3 hX
    obtain ⟨rfl, hW, hB3'⟩ := hX
    try go_simp
    refine hK _ _ ?_; clear hK K
    refine wpAny_done (by kernel_rfl) ?_ _
    exact key _ ⟨hW, hBc.trans hB3'⟩
   exact AllReady.nil
  rintro w3 ⟨hW, hB3⟩
  obtain ⟨n0, n1, n2, n3, n4, n5, _⟩ := (hb1.call hB3).g6
  go_wp2
  obtain ⟨ST, hSTd⟩ : ∃ ST, ST = us (⟨#[83, 73, 80, 47, 50, 46, 48, 32]⟩ ++ d1 ++ ⟨#[32]⟩ ++ R ++ ⟨#[13, 10]⟩) := ⟨_, rfl⟩
  rw [List.nil_append, ← hSTd] at hW
  rw [← hSTd] at HST
  have hSTl : ST.length ≤ 4294967296 := by rw [hSTd, length_us]; simp only [size_cat, h32, hcr, hver2]; omega
  clear hSTd
  have M4 := κ (fun (wx : World) (h : Below w1.heap.size w1 wx) => (boxedCell (hb1.call h) 5 : wx.cell? ⟨w.heap.size, 5, none⟩ = some (.string B)))
  have hBw1 : Below w.heap.size w w1 := hB0.trans (hC.mono hB0.size)
  go_loopw [39] (fun i wr => ∃ (k : Nat) (L : List UInt8), k ≤ H.length ∧ i = .int .i64 k ∧ L = ST ++ (H.take k).flatMap lineH ∧ Bld w1.heap.size w1.heap.size L wr ∧ Below w1.heap.size w1 wr) (fun i _ => H.length - (intOf i).toNat)
  case atStart => exact ⟨0, ST, Nat.zero_le _, rfl, by simp, hW, hB3⟩
  case round =>
   obtain ⟨k, L, hk, rfl, hL, hWr, hBr⟩ := hrel
   have hBw : Below w.heap.size w wr := hBw1.trans (hBr.mono hBw1.size)
   by_cases hlt : k < H.length
   ·obtain ⟨b, off, rfl, hbl, hc1⟩ := C1.out (by omega)
    obtain ⟨hbn, hbv⟩ := HBD.out _ (List.getElem_mem hlt)
    obtain ⟨N, hN⟩ : ∃ N, N = bs H[k].name := ⟨_, rfl⟩
    obtain ⟨V, hV⟩ : ∃ N, N = bs H[k].value := ⟨_, rfl⟩
    have x0 : wr.cell? ⟨b, off + k * 2, none⟩ = some (.string N) := by
     rw [hBw.cell (p := ⟨b, off + k * 2, none⟩) hbl, hN]; exact (hc1 k hlt).1
    have x1 : wr.cell? ⟨b, off + k * 2 + 1, none⟩ = some (.string V) := by
     rw [hBw.cell (p := ⟨b, off + k * 2 + 1, none⟩) hbl, hV]; exact (hc1 k hlt).2
    have hNs : N.size ≤ 1073741824 := by rw [hN, size_bs]; exact hbn
    have hVs : V.size ≤ 1073741824 := by rw [hV, size_bs]; exact hbv
    have k0 : (0 : Int) ≤ (k : Int) := by omega
    have k1 : (k : Int) < (H.length : Int) := by omega
    have hfl := flatH_le (H.take k) (fun h hh => HBD.out h (List.mem_of_mem_take hh))
    rw [List.length_take, Nat.min_eq_left (by omega)] at hfl
    have hln := lineH_us N V H[k] (by rw [hN, us_bs]) (by rw [hV, us_bs])
    have hnx := flatH_next H k hlt
    rw [← hln] at hnx
    have W0 : (wr.alloc (.cells #[.string N, .string V] 68)).cell? ⟨wr.heap.size, 0, none⟩ = some (.string N) := boxedCell (heap_alloc_new wr _) 0
    have W1 : (wr.alloc (.cells #[.string N, .string V] 68)).cell? ⟨wr.heap.size, 1, none⟩ = some (.string V) := boxedCell (heap_alloc_new wr _) 1
    have hWa := hWr.below ((Below.refl _ _).alloc (ρ _) (.cells #[.string N, .string V] 68))
    have hBa := hBr.alloc hBr.size (.cells #[.string N, .string V] 68)
    have hlen : L.length + (N ++ ⟨#[58, 32]⟩ ++ V ++ ⟨#[13, 10]⟩).size ≤ 140737488355328 := by
     have : L.length = ST.length + ((H.take k).flatMap lineH).length := by rw [hL, List.length_append]
     simp only [size_cat, hcr, hcol]; omega
    have HNX := κ (show L ++ us (N ++ ⟨#[58, 32]⟩ ++ V ++ ⟨#[13, 10]⟩) = ST ++ (H.take (k + 1)).flatMap lineH by rw [hL, hnx, List.append_assoc])
    clear hN hV hc1 hbl hbn hbv hfl hln hnx hL
    go_wp2_with (go_at_call 84; (with_reducible refine (bld_write w1.heap.size w1.heap.size L _ _ hWa hlen hBa.size).mono ?_); rintro e w5 ⟨rfl, hW5, hB5⟩)
    go_roundw
    case rel => exact ⟨k + 1, _, by omega, by go_num, HNX.out, hW5, hBa.trans hB5⟩
    case measure => simp [intOf]; omega
   ·have hkl : ¬ ((k : Int) < (H.length : Int)) := by omega
    have hk' : k = H.length := by omega
    have hfl := flatH_le H (fun h hh => HBD.out h hh)
    have hLl : L.length ≤ 4294967296 + H.length * 2147483652 := by rw [hL, hk', List.take_length, List.length_append]; omega
    have hfin : L ++ us (⟨#[67, 111, 110, 116, 101, 110, 116, 45, 76, 101, 110, 103, 116, 104, 58, 32]⟩ ++ d2 ++ ⟨#[13, 10, 13, 10]⟩ ++ B) = textM ⟨us ⟨#[]⟩, us T, x, us R, H, us B⟩ := by rw [HTX.out, hL, hk', htl d2 u2 uB, HST.out]
    have hlen : L.length + (⟨#[67, 111, 110, 116, 101, 110, 116, 45, 76, 101, 110, 103, 116, 104, 58, 32]⟩ ++ d2 ++ ⟨#[13, 10, 13, 10]⟩ ++ B).size ≤ 140737488355328 := by simp only [size_cat, hcln, hcr4]; omega
    obtain ⟨TX, hTX⟩ : ∃ TX, TX = textM ⟨us ⟨#[]⟩, us T, x, us R, H, us B⟩ := ⟨_, rfl⟩
    rw [← hTX] at hfin HLO HYE
    have HFIN := κ hfin
    clear hfin hL hfl hLl hTX HTX hk'
    have hBc := hBr.drew
    have hWc := hWr.below ((Below.refl _ _).drew)
    have e5 := M4.out _ hBc
    go_wp2
    refine cutk (A := fun w6 => Bld w1.heap.size w1.heap.size (L ++ us (⟨#[67, 111, 110, 116, 101, 110, 116, 45, 76, 101, 110, 103, 116, 104, 58, 32]⟩ ++ d2 ++ ⟨#[13, 10, 13, 10]⟩ ++ B)) w6 ∧ Below w1.heap.size w1 w6) ?_ (fun key => ?_) ?_
    rotate_left
    ·refine wp_region_any (by kernel_rfl) ?_
     try (change wpAny _ _ _ _ _ _ _ (World.drew _))
     first | refine tkU 0 ?_ | refine tkV 0 ?_
     try go_simp
     first | refine tkU 6 ?_ | refine tkV 6 ?_
     try go_simp
     refine wpAny_ready (rs := [1, 7]) (by kernel_rfl) (by simp) ?_
     refine AllReady.cons rfl (fun K hK => ?_) ?_
     ·
      go_simp
      refine hK _ _ ?_; clear hK K
      refine wpAny_ready (rs := [2, 7]) (by kernel_rfl) (by simp) ?_
      refine AllReady.cons rfl (fun K hK => ?_) ?_
      ·
       go_simp
       refine hK _ _ ?_; clear hK K
       refine wpAny_ready (rs := [3, 7]) (by kernel_rfl) (by simp) ?_
       refine AllReady.cons rfl (fun K hK => ?_) ?_
       ·
        refine step_wB1 rfl rfl Tryz.func83 nmDg bdDg rfl (D2.out _) ?_
        intro wd hCd
        replace hWc := hWc.below hCd
        replace hBc := hBc.trans (hCd.mono hBc.size)
        replace e5 := M4.out _ hBc
        try go_simp
        refine hK _ _ ?_; clear hK K
        first | refine tkU 4 ?_ | refine tkV 4 ?_
        try go_simp
        first | refine tkU 5 ?_ | refine tkV 5 ?_
        try go_simp
        refine rdyA 7 (fun K hK => ?_)
        go_simp
        refine hK _ _ ?_; clear hK K
        first | refine tkU 8 ?_ | refine tkV 8 ?_
        try go_simp
        refine rdyA 9 (fun K hK => ?_)
        refine step_wX2 (v0 := .pointer (some ⟨w1.heap.size, 0, none⟩)) (v1 := .string (⟨#[67, 111, 110, 116, 101, 110, 116, 45, 76, 101, 110, 103, 116, 104, 58, 32]⟩ ++ d2 ++ ⟨#[13, 10, 13, 10]⟩ ++ B)) rfl rfl Tryz.func84 nmWs bdWs rfl rfl (bld_writeX w1.heap.size w1.heap.size L _ _ hWc hlen hBc.size) ?_
        intro vx w6 hX
        obtain ⟨rfl, hW6, hB6⟩ := hX
        try go_simp
        refine hK _ _ ?_; clear hK K
        refine wpAny_done (by kernel_rfl) ?_ _
        exact key _ ⟨hW6, hBc.trans hB6⟩
       refine AllReady.cons rfl (fun K hK => ?_) ?_
       ·
        go_simp
        refine hK _ _ ?_; clear hK K
        refine rdyA 3 (fun K hK => ?_)
        refine step_wB1 rfl rfl Tryz.func83 nmDg bdDg rfl (D2.out _) ?_
        intro wd hCd
        replace hWc := hWc.below hCd
        replace hBc := hBc.trans (hCd.mono hBc.size)
        replace e5 := M4.out _ hBc
        try go_simp
        refine hK _ _ ?_; clear hK K
        first | refine tkU 4 ?_ | refine tkV 4 ?_
        try go_simp
        first | refine tkU 5 ?_ | refine tkV 5 ?_
        try go_simp
        first | refine tkU 8 ?_ | refine tkV 8 ?_
        try go_simp
        refine rdyA 9 (fun K hK => ?_)
        refine step_wX2 (v0 := .pointer (some ⟨w1.heap.size, 0, none⟩)) (v1 := .string (⟨#[67, 111, 110, 116, 101, 110, 116, 45, 76, 101, 110, 103, 116, 104, 58, 32]⟩ ++ d2 ++ ⟨#[13, 10, 13, 10]⟩ ++ B)) rfl rfl Tryz.func84 nmWs bdWs rfl rfl (bld_writeX w1.heap.size w1.heap.size L _ _ hWc hlen hBc.size) ?_
        intro vx w6 hX
        obtain ⟨rfl, hW6, hB6⟩ := hX
        try go_simp
        refine hK _ _ ?_; clear hK K
        refine wpAny_done (by kernel_rfl) ?_ _
        exact key _ ⟨hW6, hBc.trans hB6⟩
       exact AllReady.nil
      refine AllReady.cons rfl (fun K hK => ?_) ?_
      ·
       go_simp
       refine hK _ _ ?_; clear hK K
       refine rdyA 2 (fun K hK => ?_)
       go_simp
       refine hK _ _ ?_; clear hK K
       refine rdyA 3 (fun K hK => ?_)
       refine step_wB1 rfl rfl Tryz.func83 nmDg bdDg rfl (D2.out _) ?_
       intro wd hCd
       replace hWc := hWc.below hCd
       replace hBc := hBc.trans (hCd.mono hBc.size)
       replace e5 := M4.out _ hBc
       try go_simp
       refine hK _ _ ?_; clear hK K
       first | refine tkU 4 ?_ | refine tkV 4 ?_
       try go_simp
       first | refine tkU 5 ?_ | refine tkV 5 ?_
       try go_simp
       first | refine tkU 8 ?_ | refine tkV 8 ?_
       try go_simp
       refine rdyA 9 (fun K hK => ?_)
       refine step_wX2 (v0 := .pointer (some ⟨w1.heap.size, 0, none⟩)) (v1 := .string (⟨#[67, 111, 110, 116, 101, 110, 116, 45, 76, 101, 110, 103, 116, 104, 58, 32]⟩ ++ d2 ++ ⟨#[13, 10, 13, 10]⟩ ++ B)) rfl rfl Tryz.func84 nmWs bdWs rfl rfl (bld_writeX w1.heap.size w1.heap.size L _ _ hWc hlen hBc.size) ?_
       intro vx w6 hX
       obtain ⟨rfl, hW6, hB6⟩ := hX
       try go_simp
       refine hK _ _ ?_; clear hK K
       refine wpAny_done (by kernel_rfl) ?_ _
       exact key _ ⟨hW6, hBc.trans hB6⟩
      exact AllReady.nil
     refine AllReady.cons rfl (fun K hK => ?_) ?_
     ·
      go_simp
      refine hK _ _ ?_; clear hK K
      refine rdyA 1 (fun K hK => ?_)
      go_simp
      refine hK _ _ ?_; clear hK K
      refine rdyA 2 (fun K hK => ?_)
      go_simp
      refine hK _ _ ?_; clear hK K
      refine rdyA 3 (fun K hK => ?_)
      refine step_wB1 rfl rfl Tryz.func83 nmDg bdDg rfl (D2.out _) ?_
      intro wd hCd
      replace hWc := hWc.below hCd
      replace hBc := hBc.trans (hCd.mono hBc.size)
      replace e5 := M4.out _ hBc
      try go_simp
      refine hK _ _ ?_; clear hK K
      first | refine tkU 4 ?_ | refine tkV 4 ?_
      try go_simp
      first | refine tkU 5 ?_ | refine tkV 5 ?_
      try go_simp
      first | refine tkU 8 ?_ | refine tkV 8 ?_
      try go_simp
      refine rdyA 9 (fun K hK => ?_)
      refine step_wX2 (v0 := .pointer (some ⟨w1.heap.size, 0, none⟩)) (v1 := .string (⟨#[67, 111, 110, 116, 101, 110, 116, 45, 76, 101, 110, 103, 116, 104, 58, 32]⟩ ++ d2 ++ ⟨#[13, 10, 13, 10]⟩ ++ B)) rfl rfl Tryz.func84 nmWs bdWs rfl rfl (bld_writeX w1.heap.size w1.heap.size L _ _ hWc hlen hBc.size) ?_
      intro vx w6 hX
      obtain ⟨rfl, hW6, hB6⟩ := hX
      try go_simp
      refine hK _ _ ?_; clear hK K
      refine wpAny_done (by kernel_rfl) ?_ _
      exact key _ ⟨hW6, hBc.trans hB6⟩
     exact AllReady.nil
    rintro w6 ⟨hW6, hB7⟩
    rw [HFIN.out] at hW6
    by_cases h4 : 4096 < TX.length
    ·have HE := κ (HLO.out h4)
     have t4 : (4096 : Int) < (TX.length : Int) := by omega
     clear h4
     go_wp2_with (go_at_call 90; refine (bld_len _ _ TX _ hW6).mono ?_; rintro e wx ⟨rfl, rfl⟩)
     go_ret2
     exact ⟨by rw [HE.out]; rfl, hBw1.trans (hB7.mono hBw1.size)⟩
    ·have HE := κ (HYE.out h4)
     have t4 : ¬ ((4096 : Int) < (TX.length : Int)) := by omega
     clear h4
     go_wp2_with (first | (go_at_call 90; refine (bld_len _ _ TX _ hW6).mono ?_; rintro e wx ⟨rfl, rfl⟩) | (go_at_call 87; refine (bld_str _ _ TX _ hW6 hB7.size).mono ?_; rintro e w8 ⟨rfl, hB8⟩))
     go_ret2
     exact ⟨by rw [HE.out]; rfl, hBw1.trans ((hB7.trans hB8).mono hBw1.size)⟩
theorem RHdrs.put6 {w : World} {B g : Nat} {u : Value} {L : List Hdr} {a b c d e f : Value} (h : RHdrs w u L) (hF : FreshH B u) (hg : g < B) :
  RHdrs ((((((w.setCell ⟨g, 0, none⟩ a).setCell ⟨g, 1, none⟩ b).setCell ⟨g, 2, none⟩ c).setCell ⟨g, 3, none⟩ d).setCell ⟨g, 4, none⟩ e).setCell ⟨g, 5, none⟩ f) u L :=
 (((((h.set hF hg _).set hF hg _).set hF hg _).set hF hg _).set hF hg _).set hF hg _
theorem post_bad {w w' : World} (c : Int) (hB : Below w.heap.size w w') : ParsePost (mg0, c) w (.returned (.tuple #[.agg #[.string ⟨#[]⟩, .string ⟨#[]⟩, .int .i64 0, .string ⟨#[]⟩, .slice none 0 0, .string ⟨#[]⟩], .int .i64 c])) w' :=
 ⟨.slice none 0 0, rfl, RHdrs.nil _, (fun _ _ _ h => by cases h), hB⟩
end Go.Proofs.YtipdiddjhimdcaaGreatDoor
