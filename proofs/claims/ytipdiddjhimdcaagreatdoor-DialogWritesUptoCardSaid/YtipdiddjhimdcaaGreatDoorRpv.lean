/- Contracts of Go functions, and plain laws. No condition but those told. -/
import Derived.Test.YtipdiddjhimdcaaGreatDoorRmA
import Derived.Deep.RegionHeld3
import Derived.Deep.CutRange
import Derived.Deep.Cut
import Derived.Test.YtipdiddjhimdcaaGreatDoorRZ04
set_option linter.unusedSimpArgs false
set_option linter.unusedVariables false
set_option maxRecDepth 100000
namespace Go.Proofs.YtipdiddjhimdcaaGreatDoor
open Go.RowKit Go.Sort
theorem hasb_cut (c : UInt8) : ∀ l : List UInt8, hasb l c = (cutb c l).2.2
 | [] => rfl
 | b :: l => by
  unfold hasb
  rw [List.any_cons, cutb]
  by_cases h : b.toNat = c.toNat
  ·rw [if_pos h]; simp [h]
  ·rw [if_neg h, show (b.toNat == c.toNat) = false by simpa using h, Bool.false_or]
   exact hasb_cut c l
def z6U : Array Value := #[.string ⟨#[]⟩, .string ⟨#[]⟩, .string ⟨#[]⟩, .int .i64 0, .slice none 0 0, .slice none 0 0]
structure PU (w wx : World) : Prop where
 b2 : Blk wx w.heap.size 24 z6U
 b4 : Blk wx (w.heap.size + 1) 24 z6U
 hB : Below w.heap.size w wx
theorem PU.call {w wx w' : World} (h : PU w wx) (hC : Below wx.heap.size wx w') : PU w w' := ⟨h.b2.call hC, h.b4.call hC, h.hB.trans (hC.mono h.hB.size)⟩
theorem PU.drn {w wx w' : World} (h : PU w wx) (hD : Drn wx w') : PU w w' := h.call hD.below
theorem PU.drew {w wx : World} (h : PU w wx) : PU w wx.drew := ⟨h.b2, h.b4, zDrew h.hB⟩
theorem PU.lt {w wx : World} (h : PU w wx) : w.heap.size + 1 < wx.heap.size := h.b4.lt
theorem PU.start (w : World) : PU w ((w.alloc (.cells z6U 24)).alloc (.cells z6U 24)) :=
 ⟨(Blk.new w _ _).alloc _, by have := Blk.new (w.alloc (.cells z6U 24)) 24 z6U; rwa [World.size_alloc] at this, ((Below.refl _ _).alloc (ρ _) _).alloc (by rw [World.size_alloc]; omega) _⟩
theorem endU_noV {u : Uri} {C : Int} (h : C = checkU u) (h0 : C ≠ 0) : endU u = (uri0, C) := by unfold endU; rw [← h, if_neg h0]
theorem endU_okV {u : Uri} {C : Int} (h : C = checkU u) (h0 : C = 0) : endU u = (u, 0) := by unfold endU; rw [← h, if_pos h0]
theorem parseU3_at (sc us r x : List UInt8) (xs : List (List UInt8)) (hs : splitc 59 (cutb 63 r).1 = x :: xs) (h0 : (whereS x).2 = 0) (o : Bool) (L : List Prm)
  (hoL : (o, L) = if (cutb 63 r).2.2 = true then ((optP (readGo kParams xs)).2 && (optP (readGo kHeaders (splitc 38 (cutb 63 r).2.1))).2, (optP (readGo kHeaders (splitc 38 (cutb 63 r).2.1))).1) else ((optP (readGo kParams xs)).2, [])) :
  parseU3 sc us r = if o = true then endU ⟨sc, us, (whereS x).1.1, (whereS x).1.2, (optP (readGo kParams xs)).1, L⟩ else (uri0, 34) := by
 rcases parseU3_cases sc us r x xs hs with ⟨h, _⟩ | ⟨_, h1, e⟩ | ⟨_, h1, h2, h3, e⟩ | ⟨_, h1, h2, e⟩ | ⟨_, h1, h2, h3, e⟩
 ·exact absurd h0 h
 ·rw [e]
  split at hoL
  ·injection hoL with ho hL; rw [h1, Bool.false_and] at ho; rw [if_neg (by rw [ho]; decide)]
  ·injection hoL with ho hL; rw [h1] at ho; rw [if_neg (by rw [ho]; decide)]
 ·rw [if_pos h2] at hoL; injection hoL with ho hL; rw [h1, h3] at ho; rw [e, if_neg (by rw [ho]; decide)]
 ·rw [if_neg (by rw [h2]; decide)] at hoL; injection hoL with ho hL; rw [h1] at ho; rw [e, if_pos ho, hL]
 ·rw [if_pos h2] at hoL; injection hoL with ho hL; rw [h1, h3] at ho; rw [e, if_pos (by rw [ho]; decide), hL]
set_option maxHeartbeats 12800000 in
theorem parseUR_c (s : ByteArray) (hs : s.size ≤ 4294967280) (w : World) :
  Calls Tryz.prog 68 #[.string s] w (UriPost (parseU (us s)) w) := by
 have HCT := κ (fun wx => cutR_c s (by omega) 58 wx)
 rw [show (((58 : UInt8).toNat : Nat) : Int) = 58 from rfl] at HCT
 have hbad := parseU_bad (us s)
 have hgo := parseU_go (us s)
 have hcl := cutb_le 58 (us s)
 rw [length_us] at hcl
 obtain ⟨R, hR⟩ : ∃ R, R = parseU (us s) := ⟨_, rfl⟩
 rw [← hR] at hbad hgo ⊢
 obtain ⟨q, hq⟩ : ∃ q, q = cutb 58 (us s) := ⟨_, rfl⟩
 rw [← hq] at HCT hbad hgo hcl
 clear hR hq
 obtain ⟨hd, rest, ok⟩ := q
 dsimp only at HCT hbad hgo hcl
 have HL := κ (fun wx => lowerR_c (bs hd) (by rw [size_bs]; omega) wx)
 rw [us_bs] at HL
 have HSC := κ (fun wx => schemeR_c (bs (lowr hd)) wx)
 rw [us_bs] at HSC
 have scl : (lowr hd).length ≤ 4294967280 := by rw [lowr_length]; omega
 obtain ⟨sc, hsc⟩ : ∃ x, x = lowr hd := ⟨_, rfl⟩
 rw [← hsc] at HL HSC hbad hgo scl
 obtain ⟨sg, hsg⟩ : ∃ x, x = schemeS sc := ⟨_, rfl⟩
 rw [← hsg] at HSC hbad hgo
 clear hsc hsg
 go_enter Tryz.func68, Tryz.ntmps68
 go_upto_region 2 with ((with_reducible refine holdStore 24 rfl ?_); unfold Hold; refine wpList_storeNew (vs := z6U) rfl rfl (by rw [World.size_alloc]; rfl) rfl (by kernel_rfl) (by kernel_rfl) (by kernel_rfl) ?_; refine wpList_to (PU w) (PU.start w) ?_; intro wr hS)
 go_upto_region 4 with (first | (go_at_call 122; refine (HCT.out _).mono ?_; rintro e w1 ⟨rfl, hD⟩; replace hS := hS.drn hD; clear hD) | (go_at_call 123; refine (HL.out _).mono ?_; rintro e w2 ⟨rfl, hC⟩; replace hS := hS.call hC; clear hC))
 clear HCT HL
 cases ok with
 | false =>
  have HR := hbad (.inl rfl)
  clear hbad hgo
  go_wp2_with (first | ((with_reducible refine holdLoad 24 rfl ?_); unfold Hold; refine wpList_loadB (vs := z6U) rfl rfl rfl Tryz.underlying24 (by kernel_rfl) hS.b4 (whole _) ?_) | ((with_reducible refine holdStore 24 rfl ?_); unfold Hold; refine wpList_storeB (vs := z6U) rfl rfl rfl rfl (by kernel_rfl) hS.b2 (Nat.le_of_eq (by kernel_rfl)) (by kernel_rfl) (setAll_whole (by kernel_rfl)) ?_; intro w9 bz9 hfar9 hsz9 hbel9))
  refine bodyPost_ret (results_ct rfl rfl rfl Tryz.underlying24 (by kernel_rfl) bz9) rfl ?_
  exact uriErr HR (hS.hB.trans (hbel9 _ (ρ _)))
 | true =>
 cases sg with
 | false =>
  have HR := hbad (.inr rfl)
  clear hbad hgo
  go_wp2_with (first | (go_at_call 124; refine (HSC.out _).mono ?_; rintro e w2 ⟨rfl, rfl⟩) | ((with_reducible refine holdLoad 24 rfl ?_); unfold Hold; refine wpList_loadB (vs := z6U) rfl rfl rfl Tryz.underlying24 (by kernel_rfl) hS.b4 (whole _) ?_) | ((with_reducible refine holdStore 24 rfl ?_); unfold Hold; refine wpList_storeB (vs := z6U) rfl rfl rfl rfl (by kernel_rfl) hS.b2 (Nat.le_of_eq (by kernel_rfl)) (by kernel_rfl) (setAll_whole (by kernel_rfl)) ?_; intro w9 bz9 hfar9 hsz9 hbel9))
  refine bodyPost_ret (results_ct rfl rfl rfl Tryz.underlying24 (by kernel_rfl) bz9) rfl ?_
  exact uriErr HR (hS.hB.trans (hbel9 _ (ρ _)))
 | true =>
  replace hgo := hgo rfl rfl
  clear hbad
  go_upto_region 7 with (go_at_call 124; refine (HSC.out _).mono ?_; rintro e w2 ⟨rfl, rfl⟩)
  clear HSC
  have HHA := κ (fun wx => has3_c (bs rest) (by rw [size_bs]; omega) 64 wx)
  rw [us_bs, hasb_cut, show (((64 : UInt8).toNat : Nat) : Int) = 64 from rfl] at HHA
  have HCT := κ (fun wx => cutR_c (bs rest) (by rw [size_bs]; omega) 64 wx)
  rw [us_bs, show (((64 : UInt8).toNat : Nat) : Int) = 64 from rfl] at HCT
  have hcc := parseU2_cases sc rest
  have hcl2 := cutb_le 64 rest
  rw [← hgo] at hcc
  clear hgo
  obtain ⟨q, hq⟩ : ∃ q, q = cutb 64 rest := ⟨_, rfl⟩
  rw [← hq] at HHA HCT hcc hcl2
  clear hq
  obtain ⟨fa, fb, ok⟩ := q
  dsimp only at HHA HCT hcc hcl2
  have HWR := κ (fun wx => writtenR_c (bs fa) ⟨#[38, 61, 43, 36, 44, 59, 63, 47]⟩ (by rw [size_bs]; omega) (by decide) wx)
  rw [us_bs, show us ⟨#[38, 61, 43, 36, 44, 59, 63, 47]⟩ = kUsers from rfl] at HWR
  obtain ⟨wt, hwt⟩ : ∃ x, x = optB (writtenS fa kUsers) := ⟨_, rfl⟩
  rw [← hwt] at HWR hcc
  have hwl : wt.1.length ≤ fa.length := by rw [hwt]; exact optB_len fa kUsers
  clear hwt
  obtain ⟨wu, wo⟩ := wt
  dsimp only at HWR hcc hwl
  go_upto_if 46 with (go_at_call 125; refine (HHA.out _).mono ?_; rintro e w2 ⟨rfl, rfl⟩)
  go_cut [6, 9] from 28 to 126 (fun s6 s9 wx => ∃ (us_ r3 : List UInt8), s6 = .string (bs r3) ∧ s9 = .string (bs us_) ∧ R = parseU3 sc us_ r3 ∧ r3.length ≤ 4294967280 ∧ us_.length ≤ 4294967280 ∧ PU w wx)
  case first =>
   rcases hcc with ⟨h1, HR⟩ | ⟨h1, h2, HR⟩ | ⟨h1, h2, h3, HR⟩ | ⟨h1, h2, h3, HR⟩
   ·subst h1
    go_wp2
    go_meet
    case rel => exact ⟨[], rest, rfl, rfl, HR, by omega, Nat.zero_le _, hS⟩
   ·subst h1 h2
    go_wp2_with (first | (go_at_call 122; refine (HCT.out _).mono ?_; rintro e w1 ⟨rfl, hD⟩; replace hS := hS.drn hD; clear hD) | (go_at_call 126; refine (HWR.out _).mono ?_; rintro e w2 ⟨rfl, hC⟩; replace hS := hS.call hC; clear hC) | ((with_reducible refine holdLoad 24 rfl ?_); unfold Hold; refine wpList_loadB (vs := z6U) rfl rfl rfl Tryz.underlying24 (by kernel_rfl) hS.b4 (whole _) ?_) | ((with_reducible refine holdStore 24 rfl ?_); unfold Hold; refine wpList_storeB (vs := z6U) rfl rfl rfl rfl (by kernel_rfl) hS.b2 (Nat.le_of_eq (by kernel_rfl)) (by kernel_rfl) (setAll_whole (by kernel_rfl)) ?_; intro w9 bz9 hfar9 hsz9 hbel9))
    refine bodyPost_ret (results_ct rfl rfl rfl Tryz.underlying24 (by kernel_rfl) bz9) rfl ?_
    exact uriErr HR (hS.hB.trans (hbel9 _ (ρ _)))
   ·subst h1 h2
    by_cases h4 : wu = []
    ·subst h4
     have z0 : bs ([] : List UInt8) = ByteArray.empty := rfl
     rw [z0] at HWR
     clear z0 h3
     go_wp2_with (first | (go_at_call 122; refine (HCT.out _).mono ?_; rintro e w1 ⟨rfl, hD⟩; replace hS := hS.drn hD; clear hD) | (go_at_call 126; refine (HWR.out _).mono ?_; rintro e w2 ⟨rfl, hC⟩; replace hS := hS.call hC; clear hC) | ((with_reducible refine holdLoad 24 rfl ?_); unfold Hold; refine wpList_loadB (vs := z6U) rfl rfl rfl Tryz.underlying24 (by kernel_rfl) hS.b4 (whole _) ?_) | ((with_reducible refine holdStore 24 rfl ?_); unfold Hold; refine wpList_storeB (vs := z6U) rfl rfl rfl rfl (by kernel_rfl) hS.b2 (Nat.le_of_eq (by kernel_rfl)) (by kernel_rfl) (setAll_whole (by kernel_rfl)) ?_; intro w9 bz9 hfar9 hsz9 hbel9))
     refine bodyPost_ret (results_ct rfl rfl rfl Tryz.underlying24 (by kernel_rfl) bz9) rfl ?_
     exact uriErr HR (hS.hB.trans (hbel9 _ (ρ _)))
    ·have h5 : 64 < wu.length := by rcases h3 with h3 | h3; exact absurd h3 h4; exact h3
     have pI : wu.isEmpty = false := by cases wu with | nil => exact absurd rfl h4 | cons => rfl
     clear h3 h4
     go_wp2_with (first | (go_at_call 122; refine (HCT.out _).mono ?_; rintro e w1 ⟨rfl, hD⟩; replace hS := hS.drn hD; clear hD) | (go_at_call 126; refine (HWR.out _).mono ?_; rintro e w2 ⟨rfl, hC⟩; replace hS := hS.call hC; clear hC) | ((with_reducible refine holdLoad 24 rfl ?_); unfold Hold; refine wpList_loadB (vs := z6U) rfl rfl rfl Tryz.underlying24 (by kernel_rfl) hS.b4 (whole _) ?_) | ((with_reducible refine holdStore 24 rfl ?_); unfold Hold; refine wpList_storeB (vs := z6U) rfl rfl rfl rfl (by kernel_rfl) hS.b2 (Nat.le_of_eq (by kernel_rfl)) (by kernel_rfl) (setAll_whole (by kernel_rfl)) ?_; intro w9 bz9 hfar9 hsz9 hbel9))
     refine bodyPost_ret (results_ct rfl rfl rfl Tryz.underlying24 (by kernel_rfl) bz9) rfl ?_
     exact uriErr HR (hS.hB.trans (hbel9 _ (ρ _)))
   ·subst h1 h2
    have pI : wu.isEmpty = false := by cases wu with | nil => exact absurd (.inl rfl) h3 | cons => rfl
    have h5 : ¬ 64 < wu.length := fun h => h3 (.inr h)
    clear h3
    go_wp2_with (first | (go_at_call 122; refine (HCT.out _).mono ?_; rintro e w1 ⟨rfl, hD⟩; replace hS := hS.drn hD; clear hD) | (go_at_call 126; refine (HWR.out _).mono ?_; rintro e w2 ⟨rfl, hC⟩; replace hS := hS.call hC; clear hC))
    go_meet
    case rel => exact ⟨wu, fb, rfl, rfl, HR, by omega, by omega, hS⟩
  case rest =>
   obtain ⟨us_, r3, rfl, rfl, hR3, hl3, hlu, hS⟩ := hcut
   clear HHA HCT HWR hcc hcl2 hwl hcl
   have HCT := κ (fun wx => cutR_c (bs r3) (by rw [size_bs]; omega) 63 wx)
   rw [us_bs, show (((63 : UInt8).toNat : Nat) : Int) = 63 from rfl] at HCT
   have hcl3 := cutb_le 63 r3
   obtain ⟨x, xs, hxs⟩ : ∃ x xs, splitc 59 (cutb 63 r3).1 = x :: xs := ⟨_, _, splitc_cut 59 _⟩
   have hat := parseU3_at sc us_ r3 x xs hxs
   have hno : (whereS x).2 ≠ 0 → parseU3 sc us_ r3 = (uri0, (whereS x).2) := by
    intro h
    rcases parseU3_cases sc us_ r3 x xs hxs with ⟨_, e⟩ | ⟨h0, _⟩ | ⟨h0, _⟩ | ⟨h0, _⟩ | ⟨h0, _⟩
    ·exact e
    all_goals exact absurd h0 h
   rw [← hR3] at hat hno
   clear hR3
   obtain ⟨q, hq⟩ : ∃ q, q = cutb 63 r3 := ⟨_, rfl⟩
   rw [← hq] at HCT hat hxs hcl3
   clear hq
   obtain ⟨fr, bk, ask⟩ := q
   dsimp only at HCT hat hxs hcl3
   have hbx : ∀ p ∈ x :: xs, p.length ≤ 4294967280 := by rw [← hxs]; intro p hp; have := splitc_bd 59 _ p hp; omega
   have hxl := splitc_len 59 fr
   rw [hxs] at hxl
   simp only [List.length_cons] at hxl
   have HSP := κ (fun wx => splitR_c (bs fr) (by rw [size_bs]; omega) 59 wx)
   rw [us_bs, hxs, show (((59 : UInt8).toNat : Nat) : Int) = 59 from rfl] at HSP
   clear hxs
   have HWH := κ (fun wx => whereR_c (bs x) (by rw [size_bs]; exact hbx x (List.mem_cons_self ..)) wx)
   rw [us_bs] at HWH
   have hwo := where_ok x
   obtain ⟨⟨⟨ho, po⟩, we⟩, hwe⟩ : ∃ y, y = whereS x := ⟨_, rfl⟩
   rw [← hwe] at HWH hat hno hwo
   dsimp only at HWH hat hno hwo
   clear hwe
   have HP1 := κ (fun wx v hv => readR_c v xs ⟨#[91, 93, 47, 58, 38, 43, 36]⟩ (by decide) wx hv (fun p hp => hbx p (List.mem_cons_of_mem _ hp)) (by omega))
   rw [show us ⟨#[91, 93, 47, 58, 38, 43, 36]⟩ = kParams from rfl] at HP1
   unfold ReadPost at HP1
   have hp1 := readP_bd kParams xs 4294967280 (fun p hp => hbx p (List.mem_cons_of_mem _ hp))
   obtain ⟨⟨ps, o1⟩, hps⟩ : ∃ y, y = optP (readGo kParams xs) := ⟨_, rfl⟩
   rw [← hps] at HP1 hat hp1
   dsimp only at HP1 hat hp1
   clear hps
   have hbk : ∀ p ∈ splitc 38 bk, p.length ≤ 4294967280 := by intro p hp; have := splitc_bd 38 _ p hp; omega
   have hbl := splitc_len 38 bk
   have HSQ := κ (fun wx => splitR_c (bs bk) (by rw [size_bs]; omega) 38 wx)
   rw [us_bs, show (((38 : UInt8).toNat : Nat) : Int) = 38 from rfl] at HSQ
   have HP2 := κ (fun wx v hv => readR_c v (splitc 38 bk) ⟨#[91, 93, 47, 63, 58, 43, 36]⟩ (by decide) wx hv hbk (by omega))
   rw [show us ⟨#[91, 93, 47, 63, 58, 43, 36]⟩ = kHeaders from rfl] at HP2
   unfold ReadPost at HP2
   have hp2 := readP_bd kHeaders (splitc 38 bk) 4294967280 hbk
   obtain ⟨⟨hs2, o2⟩, hhs⟩ : ∃ y, y = optP (readGo kHeaders (splitc 38 bk)) := ⟨_, rfl⟩
   rw [← hhs] at HP2 hat hp2
   dsimp only at HP2 hat hp2
   clear hhs
   have hxx : x.length ≤ 4294967280 := hbx x (List.mem_cons_self ..)
   have hxn := hxl
   clear hbx hbk hbl hcl3 hl3
   go_upto_region 15 with (first | (go_at_call 122; refine (HCT.out _).mono ?_; rintro e w1 ⟨rfl, hD⟩; replace hS := hS.drn hD; clear hD) | (go_at_call 127; refine (HSP.out _).mono ?_; rintro e w2 ⟨v, rfl, hv1, hC⟩; replace hS := hS.call hC; obtain ⟨ao1, cap1, rfl, hm1, cc1⟩ := hv1.form; clear hC))
   obtain ⟨b, off, e9, _, c1⟩ := cc1 (by simp)
   subst e9
   have x0 : w2.cell? ⟨b, off, none⟩ = some (.string (bs x)) := c1 0 (by simp)
   clear c1 cc1
   unfold maxLen at hm1
   go_upto_region 16 with (go_at_call 128; refine (HWH.out _).mono ?_; rintro e w2 ⟨rfl, hC⟩; replace hS := hS.call hC; replace hv1 := hv1.below hC (ρ _); clear hC x0)
   by_cases hw0 : we = 0
   rotate_left
   ·have tne : (we != 0) = true := by simpa using hw0
    have HR := hno hw0
    clear hat hno hw0
    go_wp2_with (first | ((with_reducible refine holdLoad 24 rfl ?_); unfold Hold; refine wpList_loadB (vs := z6U) rfl rfl rfl Tryz.underlying24 (by kernel_rfl) hS.b4 (whole _) ?_) | ((with_reducible refine holdStore 24 rfl ?_); unfold Hold; refine wpList_storeB (vs := z6U) rfl rfl rfl rfl (by kernel_rfl) hS.b2 (Nat.le_of_eq (by kernel_rfl)) (by kernel_rfl) (setAll_whole (by kernel_rfl)) ?_; intro w9 bz9 hfar9 hsz9 hbel9))
    refine bodyPost_ret (results_ct rfl rfl rfl Tryz.underlying24 (by kernel_rfl) bz9) rfl ?_
    exact uriErr HR (hS.hB.trans (hbel9 _ (ρ _)))
   subst hw0
   replace hat := hat (by first | rfl | trivial)
   have hhl := (host_low _ (hwo (by first | rfl | trivial)).1).2.2
   clear hno hwo
   have hTA := fun h => RStrs.tailA hv1 h
   have hTB := RStrs.tailB hv1
   by_cases hc1 : cap1 = 1
   all_goals first
    | (have h0 : cap1 = 1 := hc1; replace hTA := hTA h0; subst hc1; go_upto_if 98 with (go_at_call 129; refine (HP1.out _ _ (hTA)).mono ?_; rintro e w3 ⟨u1, rfl, hps1, hF1, hC⟩; have hG1 := hF1.mono (Nat.succ_le_of_lt hS.lt); replace hS := hS.call hC; obtain ⟨po1, pc1, rfl⟩ := hps1.form'; clear hC hF1))
    | go_upto_if 98 with (go_at_call 129; refine (HP1.out _ _ (hTB)).mono ?_; rintro e w3 ⟨u1, rfl, hps1, hF1, hC⟩; have hG1 := hF1.mono (Nat.succ_le_of_lt hS.lt); replace hS := hS.call hC; obtain ⟨po1, pc1, rfl⟩ := hps1.form'; clear hC hF1)
   all_goals (
   clear hTA hTB hv1 HP1
   have hps := hps1
   clear hps1
   go_cut [23, 24] from 28 to 126 (fun s23 s24 wx => ∃ (o : Bool) (L : List Prm) (lo : Option Addr) (lc : Nat), s23 = .bool o ∧ s24 = .slice lo L.length lc ∧ (o, L) = (if ask = true then (o1 && o2, hs2) else (o1, [])) ∧ RPrms wx (.slice lo L.length lc) L ∧ Fresh (w.heap.size + 1 + 1) (.slice lo L.length lc) ∧ RPrms wx (.slice po1 ps.length pc1) ps ∧ PU w wx)
   case first =>
    cases ask with
    | false =>
     go_wp2
     go_meet
     case rel => exact ⟨o1, [], none, 0, rfl, rfl, rfl, .inl ⟨⟨_, _, rfl⟩, rfl⟩, Fresh.nil _ _ _, hps, hS⟩
    | true =>
     go_upto_region 22 with (first | (go_at_call 127; refine (HSQ.out _).mono ?_; rintro e w2 ⟨v, rfl, hv2, hC⟩; replace hS := hS.call hC; obtain ⟨ao2, cap2, rfl, hm2, cc2⟩ := hv2.form; replace hps := hps.below hC (ρ _); clear hC) | (go_at_call 129; refine (HP2.out _ _ (hv2)).mono ?_; rintro e w3 ⟨u2, rfl, hps2, hF2, hC⟩; have hG2 := hF2.mono (Nat.succ_le_of_lt hS.lt); replace hps := hps.below hC (ρ _); replace hS := hS.call hC; obtain ⟨po2, pc2, rfl⟩ := hps2.form'; clear hC hF2))
     cases o1
     all_goals
      go_wp2
      go_meet
      case rel => exact ⟨_, hs2, po2, pc2, rfl, rfl, rfl, hps2, hG2, hps, hS⟩
   case rest =>
    obtain ⟨o, L, lo, lc, rfl, rfl, hoL, hL, hLF, hps, hS⟩ := hcut
    have hRo := hat o L hoL
    have hLb : ∀ p ∈ L, p.name.length ≤ 4294967280 ∧ p.value.length ≤ 4294967280 := by
     cases ask
     ·injection hoL with _ h; rw [h]; exact fun p hp => by cases hp
     ·injection hoL with _ h; rw [h]; exact hp2
    clear hat hoL HP2 hp2 HSQ HSP HWH HCT
    cases o with
    | false =>
     rw [if_neg (by decide)] at hRo
     go_wp2_with (first | ((with_reducible refine holdLoad 24 rfl ?_); unfold Hold; refine wpList_loadB (vs := z6U) rfl rfl rfl Tryz.underlying24 (by kernel_rfl) hS.b4 (whole _) ?_) | ((with_reducible refine holdStore 24 rfl ?_); unfold Hold; refine wpList_storeB (vs := z6U) rfl rfl rfl rfl (by kernel_rfl) hS.b2 (Nat.le_of_eq (by kernel_rfl)) (by kernel_rfl) (setAll_whole (by kernel_rfl)) ?_; intro w9 bz9 hfar9 hsz9 hbel9))
     refine bodyPost_ret (results_ct rfl rfl rfl Tryz.underlying24 (by kernel_rfl) bz9) rfl ?_
     exact uriErr hRo (hS.hB.trans (hbel9 _ (ρ _)))
    | true =>
     rw [if_pos rfl] at hRo
     have HCK := κ (fun wx h1 h2 => checkUR_c (bs sc) (bs us_) (bs ho) po (.slice po1 ps.length pc1) (.slice lo L.length lc) ps L (by rw [size_bs]; exact scl) (by rw [size_bs]; omega) wx h1 h2 hp1 hLb)
     rw [us_bs, us_bs, us_bs] at HCK
     have hE1 := fun (C : Int) (h : C = checkU ⟨sc, us_, ho, po, ps, L⟩) (h0 : C ≠ 0) => hRo.trans (endU_noV h h0)
     have hE2 := fun (C : Int) (h : C = checkU ⟨sc, us_, ho, po, ps, L⟩) (h0 : C = 0) => hRo.trans (endU_okV h h0)
     obtain ⟨C, hC0⟩ : ∃ C, C = checkU ⟨sc, us_, ho, po, ps, L⟩ := ⟨_, rfl⟩
     rw [← hC0] at HCK
     have HE1 := κ (hE1 C hC0)
     have HE2 := κ (hE2 C hC0)
     clear hE1 hE2 hC0 hRo hp1 hLb
     go_upto_region 27 with ((with_reducible refine holdStore 24 rfl ?_); unfold Hold; refine wpList_storeNew (vs := #[.string (bs sc), .string (bs us_), .string (bs ho), .int .i64 po, .slice po1 ps.length pc1, .slice lo L.length lc]) rfl rfl rfl rfl (by kernel_rfl) (by kernel_rfl) (by kernel_rfl) ?_; refine wpList_to (fun x => ∃ gu, PU w x ∧ Blk x gu 24 #[.string (bs sc), .string (bs us_), .string (bs ho), .int .i64 po, .slice po1 ps.length pc1, .slice lo L.length lc] ∧ RPrms x (.slice po1 ps.length pc1) ps ∧ RPrms x (.slice lo L.length lc) L ∧ w.heap.size + 1 < gu ∧ gu = wc.heap.size) ⟨_, hS.call ((Below.refl _ _).alloc (ρ _) _), Blk.new _ _ _, hps.below ((Below.refl _ _).alloc (ρ _) _) (ρ _), hL.below ((Below.refl _ _).alloc (ρ _) _) (ρ _), hS.lt, rfl⟩ ?_; clear hS hps hL; rintro w4 ⟨gu, hS, bu, hps, hL, hgu, hge⟩; rw [← hge])
     clear hge
     by_cases hc0 : C = 0
     ·subst hc0
      go_wp2_with (first | ((with_reducible refine holdLoad 24 rfl ?_); unfold Hold; refine wpList_loadB rfl rfl rfl Tryz.underlying24 (by kernel_rfl) bu (whole _) ?_) | (go_at_call 119; refine (HCK.out _ hps hL).mono ?_; rintro e w5 ⟨rfl, hC⟩; replace hS := hS.call hC; replace bu := bu.call hC; replace hps := hps.below hC (ρ _); replace hL := hL.below hC (ρ _); clear hC) | ((with_reducible refine holdStore 24 rfl ?_); unfold Hold; refine wpList_storeB (vs := #[.string (bs sc), .string (bs us_), .string (bs ho), .int .i64 po, .slice po1 ps.length pc1, .slice lo L.length lc]) rfl rfl rfl rfl (by kernel_rfl) hS.b2 (Nat.le_of_eq (by kernel_rfl)) (by kernel_rfl) (setAll_whole (by kernel_rfl)) ?_; intro w9 bz9 hfar9 hsz9 hbel9))
      refine bodyPost_ret (results_ct rfl rfl rfl Tryz.underlying24 (by kernel_rfl) bz9) rfl ?_
      have hRR := HE2.out (by first | rfl | trivial)
      refine ⟨.slice po1 ps.length pc1, .slice lo L.length lc, by rw [hRR]; rfl, ?_, ?_, hG1.mono (by omega), hLF.mono (by omega), hS.hB.trans (hbel9 _ (ρ _))⟩
      ·rw [hRR]; exact Off.prms hps (Off.fresh hG1 (by omega)) hfar9 (Nat.le_of_eq hsz9.symm)
      ·rw [hRR]; exact Off.prms hL (Off.fresh hLF (by omega)) hfar9 (Nat.le_of_eq hsz9.symm)
     ·have tne : (C != 0) = true := by simpa using hc0
      go_upto_region 28 with (first | ((with_reducible refine holdLoad 24 rfl ?_); unfold Hold; refine wpList_loadB rfl rfl rfl Tryz.underlying24 (by kernel_rfl) bu (whole _) ?_) | (go_at_call 119; refine (HCK.out _ hps hL).mono ?_; rintro e w5 ⟨rfl, hC⟩; replace hS := hS.call hC; replace bu := bu.call hC; replace hps := hps.below hC (ρ _); replace hL := hL.below hC (ρ _); clear hC))
      have hC0 := κ hc0
      clear tne
      refine wp_region_held_drew (S := fun wx => Blk wx (w.heap.size + 1) 24 z6U ∧ Blk wx gu 24 #[.string (bs sc), .string (bs us_), .string (bs ho), .int .i64 po, .slice po1 ps.length pc1, .slice lo L.length lc]) (by kernel_rfl) ⟨Blk.drw hS.b4, Blk.drw bu⟩ (fun hHeld => ?_)
      replace hS := hS.drew
      replace bu := Blk.drw bu
      replace hps := hps.below (zDrew (Below.refl _ _)) (ρ _)
      replace hL := hL.below (zDrew (Below.refl _ _)) (ρ _)
      refine tkH 0 ?_ (v := .agg z6U) (hy := by intro wx hSw; exact run_loadBo (off := 0) rfl rfl Tryz.underlying24 (by kernel_rfl) hSw.1 (whole _))
      try simp only [Act.put, agS]
      refine tkH 1 ?_ (v := .agg #[.string (bs sc), .string (bs us_), .string (bs ho), .int .i64 po, .slice po1 ps.length pc1, .slice lo L.length lc]) (hy := by intro wx hSw; exact run_loadBo (off := 0) rfl rfl Tryz.underlying24 (by kernel_rfl) hSw.2 (whole _))
      try simp only [Act.put, agS]
      refine wpAnyH_ready (rs := [2]) (by kernel_rfl) (by simp) ?_
      refine AllReadyH.cons rfl (fun K hK => ?_) ?_
      ·
       go_simp
       go_at_call 119
       refine (HCK.out _ hps hL).mono ?_
       rintro e w5 ⟨rfl, hC⟩
       replace hS := hS.call hC
       replace bu := bu.call hC
       clear hC
       refine hK.out _ _ ?_ (fun hHeld => ?_)
       focus ((try dsimp only); first | exact ⟨hS.b4, bu⟩ | exact ⟨b4', bu⟩)
       clear hK K
       try simp only [Act.put, agS]
       refine rdyH 3 (fun K hK => ?_)
       rw [if_pos (by rfl)]
       refine op_storeB (off := 0) (vs := z6U) (cs' := z6U) rfl rfl rfl (by kernel_rfl) hS.b2 (Nat.le_of_ble_eq_true (by kernel_rfl)) (by kernel_rfl) (setAll_whole (by kernel_rfl)) ?_
       intro w9 bz9 hfar9 hsz9 hbel9
       have b4' := (hfar9 _ (by omega)).trans hS.b4
       replace bu := (hfar9 _ (by omega)).trans bu
       refine hK.out _ _ ?_ (fun hHeld => ?_)
       focus ((try dsimp only); first | exact ⟨hS.b4, bu⟩ | exact ⟨b4', bu⟩)
       clear hK K
       try simp only [Act.put, agS]
       refine tkH 4 ?_
       try simp only [Act.put, agS]
       refine wpAnyH_done (by kernel_rfl) ?_ _
       go_wp2
       refine bodyPost_ret (results_ct rfl rfl rfl Tryz.underlying24 (by kernel_rfl) bz9) rfl ?_
       exact uriErr (HE1.out hc0) (hS.hB.trans (hbel9 _ (ρ _)))
      exact AllReadyH.nil)
end Go.Proofs.YtipdiddjhimdcaaGreatDoor
