/- Contracts of Go functions, and plain laws. No condition but those told. -/
import Derived.Test.YtipdiddjhimdcaaGreatDoorRpv
set_option linter.unusedSimpArgs false
set_option linter.unusedVariables false
set_option maxRecDepth 100000
namespace Go.Proofs.YtipdiddjhimdcaaGreatDoor
open Go.RowKit Go.Sort
theorem cut_fst (c : UInt8) : ∀ l : List UInt8, (cutb c l).2.2 = false → (cutb c l).1 = l
 | [], _ => rfl
 | x :: r, h => by
  by_cases hx : x.toNat = c.toNat
  ·rw [cutb_yes c x r hx] at h; cases h
  ·rw [cutb_no c x r hx] at h ⊢
   dsimp only at h ⊢
   rw [cut_fst c r h]
theorem cut_drop (c : UInt8) : ∀ l : List UInt8, (cutb c l).2.2 = true → l.drop (cutb c l).1.length = c :: (cutb c l).2.1
 | [], h => by cases h
 | x :: r, h => by
  by_cases hx : x.toNat = c.toNat
  ·rw [cutb_yes c x r hx, UInt8.toNat_inj.1 hx]; rfl
  ·rw [cutb_no c x r hx] at h ⊢
   exact cut_drop c r h
theorem any_barb : ∀ l : List UInt8, l.any barb = (hasb l 63 || hasb l 44 || hasb l 34)
 | [] => rfl
 | x :: r => by
  have ih := any_barb r
  unfold hasb at ih ⊢
  rw [List.any_cons, List.any_cons, List.any_cons, List.any_cons, ih, show barb x = (x.toNat == 63 || x.toNat == 44 || x.toNat == 34) from rfl]
  show _ = ((x.toNat == 63 || _) || (x.toNat == 44 || _) || (x.toNat == 34 || _))
  cases (x.toNat == 63) <;> cases (x.toNat == 44) <;> cases (x.toNat == 34) <;> cases (r.any fun x => x.toNat == UInt8.toNat 63) <;> cases (r.any fun x => x.toNat == UInt8.toNat 44) <;> cases (r.any fun x => x.toNat == UInt8.toNat 34) <;> rfl
theorem ang_at : ∀ (n : Nat) (l : List UInt8) (q : Bool) (k : Nat) (m : Nat), l.length ≤ n → angGo q l (k : Int) = ((k + m : Nat) : Int) → ∃ c, l[m]? = some c ∧ c.toNat = 60
 | n, [], q, k, m, _, h => by rw [ang_end] at h; omega
 | 0, c :: r, q, k, m, hl, _ => by simp at hl
 | n + 1, c :: r, q, k, m, hl, h => by
  rw [List.length_cons] at hl
  by_cases h1 : q = true ∧ c.toNat = 92
  ·cases r with
   | nil => rw [angGo.eq_def] at h; dsimp only at h; rw [if_pos h1] at h; omega
   | cons d r =>
    obtain ⟨rfl, h2⟩ := h1
    rw [ang_esc _ _ _ _ h2] at h
    have hge := ang_ge n r true ((k + 2 : Nat) : Int) (by simp at hl; omega) (by omega)
    rw [show (k : Int) + 2 = ((k + 2 : Nat) : Int) by omega] at h
    have hm : 2 ≤ m := by rcases hge with g | g <;> omega
    obtain ⟨m', rfl⟩ : ∃ m', m = m' + 2 := ⟨m - 2, by omega⟩
    exact ang_at n r true (k + 2) m' (by simp at hl; omega) (by rw [h]; omega)
  ·rw [ang_cons _ _ _ _ h1] at h
   have step : ∀ q', angGo q' r ((k : Int) + 1) = ((k + m : Nat) : Int) → ∃ c', (c :: r)[m]? = some c' ∧ c'.toNat = 60 := by
    intro q' h'
    have hge := ang_ge n r q' ((k + 1 : Nat) : Int) (by omega) (by omega)
    rw [show (k : Int) + 1 = ((k + 1 : Nat) : Int) by omega] at h'
    have hm : 1 ≤ m := by rcases hge with g | g <;> omega
    obtain ⟨m', rfl⟩ : ∃ m', m = m' + 1 := ⟨m - 1, by omega⟩
    exact ang_at n r q' (k + 1) m' (by omega) (by rw [h']; omega)
   split at h
   ·exact step _ h
   ·split at h
    ·rename_i h3
     obtain rfl : m = 0 := by omega
     exact ⟨c, rfl, h3.2⟩
    ·exact step _ h
theorem ang_has (T : ByteArray) (k : Nat) (hk : k < T.size) (h : angS (us T) = (k : Int)) : hasb ((us T).drop k) 62 = (cutb 62 ((us T).drop (k + 1))).2.2 := by
 obtain ⟨c, h1, h2⟩ := ang_at (us T).length (us T) false 0 k (ρ _) (by unfold angS at h; rw [show ((0 : Nat) : Int) = 0 from rfl, h]; omega)
 rw [get_us T k hk] at h1
 injection h1 with h1
 rw [← hasb_cut, drop_us T k hk]
 unfold hasb
 rw [List.any_cons, h1, h2]; rfl
theorem us_inj_bs (s : ByteArray) : bs (us s) = s := bs_us s
def z8A : Array Value := #[.string ⟨#[]⟩, .string ⟨#[]⟩, .string ⟨#[]⟩, .string ⟨#[]⟩, .int .i64 0, .slice none 0 0, .slice none 0 0, .slice none 0 0]
structure PA (w : World) (ga : Nat) (rs : Array Value) (wx : World) : Prop where
 b2 : Blk wx w.heap.size 26 z8A
 b4 : Blk wx (w.heap.size + 1) 26 z8A
 b5 : Blk wx ga 26 rs
 hB : Below w.heap.size w wx
 lt : w.heap.size + 1 < ga
theorem PA.call {w wx w' : World} {ga : Nat} {rs : Array Value} (h : PA w ga rs wx) (hC : Below wx.heap.size wx w') : PA w ga rs w' := ⟨h.b2.call hC, h.b4.call hC, h.b5.call hC, h.hB.trans (hC.mono h.hB.size), h.lt⟩
theorem PA.drn {w wx w' : World} {ga : Nat} {rs : Array Value} (h : PA w ga rs wx) (hD : Drn wx w') : PA w ga rs w' := h.call hD.below
theorem PA.store {w wx w' : World} {ga : Nat} {rs rs' : Array Value} (h : PA w ga rs wx) (hb : Blk w' ga 26 rs') (hf : ∀ k, k ≠ ga → w'.heap[k]? = wx.heap[k]?) (hl : ∀ B, B ≤ ga → Below B wx w') : PA w ga rs' w' :=
 ⟨(hf _ (by have := h.lt; omega)).trans h.b2, (hf _ (by have := h.lt; omega)).trans h.b4, hb, h.hB.trans (hl _ (by have := h.lt; omega)), h.lt⟩
theorem PA.start (w : World) : PA w (w.heap.size + 1 + 1) z8A (((w.alloc (.cells z8A 26)).alloc (.cells z8A 26)).alloc (.cells z8A 26)) :=
 ⟨((Blk.new w _ _).alloc _).alloc _, by have := (Blk.new (w.alloc (.cells z8A 26)) 26 z8A).alloc (.cells z8A 26); rwa [World.size_alloc] at this, by
  have := Blk.new ((w.alloc (.cells z8A 26)).alloc (.cells z8A 26)) 26 z8A; rwa [World.size_alloc, World.size_alloc] at this,
  (((Below.refl _ _).alloc (ρ _) _).alloc (by rw [World.size_alloc]; omega) _).alloc (by rw [World.size_alloc, World.size_alloc]; omega) _, Nat.lt_succ_self _⟩
theorem aErr {R : Adr × Int} {c : Int} {w w' : World} (h : R = (adr0, c)) (hB : Below w.heap.size w w') : AdrPost R w (.returned (.tuple #[.agg z8A, .int .i64 c])) w' := adrErr h hB
set_option maxHeartbeats 12800000 in
theorem parseAR_c (s : ByteArray) (hs : s.size ≤ 4294967280) (w : World) :
  Calls Tryz.prog 69 #[.string s] w (AdrPost (parseA (us s)) w) := by
 have HTR := κ (fun wx => trimR_c s (by omega) wx)
 have htl := trim_le (us s)
 rw [length_us] at htl
 have hpa : parseA (us s) = parseA1 (trim (us s)) := rfl
 obtain ⟨T, hT⟩ : ∃ T, T = bs (trim (us s)) := ⟨_, rfl⟩
 have uT : trim (us s) = us T := by rw [hT, us_bs]
 have sT : T.size ≤ 4294967280 := by rw [hT, size_bs]; omega
 rw [← hT] at HTR
 rw [hpa, uT]
 clear hT uT hpa htl hs
 have HAN := κ (fun wx => openR_c T sT wx)
 have hal := angS_lt (us T)
 have hah := fun k hk h => ang_has T k hk h
 rw [length_us] at hal
 have hp1 : parseA1 (us T) = if 0 ≤ angS (us T) then parseN (displayS ((us T).take (angS (us T)).toNat)) (cutb 62 ((us T).drop ((angS (us T)).toNat + 1))) else parseB (us T) (trim (cutb 59 (us T)).1) := rfl
 obtain ⟨R, hR⟩ : ∃ R, R = parseA1 (us T) := ⟨_, rfl⟩
 rw [← hR] at hp1 ⊢
 clear hR
 obtain ⟨at_, hat⟩ : ∃ x, x = angS (us T) := ⟨_, rfl⟩
 rw [← hat] at HAN hal hp1 hah
 clear hat
 go_enter Tryz.func69, Tryz.ntmps69
 go_upto_region 4 with (first | (go_at_call 130; first | ((with_reducible refine (HTR.out _).mono ?_); rintro e w1 ⟨rfl, rfl⟩)) | ((with_reducible refine holdStore 26 rfl ?_); unfold Hold; refine wpList_storeNew (vs := z8A) rfl rfl (by rw [World.size_alloc]; rfl) rfl (by kernel_rfl) (by kernel_rfl) (by kernel_rfl) ?_))
 refine any_world (R := Code.wp _ _ _ _) (PA w (w.heap.size + 1 + 1) z8A) (PA.start w) ?_
 intro wr hS
 obtain ⟨ga, hga⟩ : ∃ x, x = w.heap.size + 1 + 1 := ⟨_, rfl⟩
 rw [← hga] at hS ⊢
 clear hga HTR
 go_upto_if 22 with (go_at_call 131; refine (HAN.out _).mono ?_; rintro e wt ⟨rfl, rfl⟩)
 clear HAN
 go_cut [6, 7] from 15 to 105 (fun s6 s7 wx => ∃ (d wh bh : List UInt8), s6 = .string (bs wh) ∧ s7 = .string (bs bh) ∧ R = parseA2 d wh bh ∧ wh.length ≤ 4294967280 ∧ bh.length ≤ 4294967280 ∧ PA w ga #[.string (bs d), .string ⟨#[]⟩, .string ⟨#[]⟩, .string ⟨#[]⟩, .int .i64 0, .slice none 0 0, .slice none 0 0, .slice none 0 0] wx)
 case first =>
  by_cases h0 : 0 ≤ at_
  ·rw [if_pos h0] at hp1
   obtain ⟨k, rfl⟩ : ∃ k : Nat, at_ = (k : Int) := ⟨at_.toNat, by omega⟩
   have hk : k < T.size := by omega
   rw [show ((k : Int)).toNat = k by omega] at hp1
   replace hah := hah k hk rfl
   clear hal h0
   have HDS := κ (fun wx => dispR_c (T.extract 0 k) (by rw [size_extract _ _ _ (by omega)]; omega) wx)
   have hex : us (T.extract 0 k) = (us T).take k := by rw [us_extract]; rfl
   rw [hex] at HDS
   have HCT := κ (fun wx => cutR_c (T.extract (k + 1) T.size) (by rw [size_extract _ _ _ (ρ _)]; omega) 62 wx)
   rw [show (((62 : UInt8).toNat : Nat) : Int) = 62 from rfl] at HCT
   have HHA := κ (fun wx => has3_c (T.extract k T.size) (by rw [size_extract _ _ _ (ρ _)]; omega) 62 wx)
   rw [show (((62 : UInt8).toNat : Nat) : Int) = 62 from rfl] at HHA
   rw [us_tail] at HCT HHA
   rw [hah] at HHA
   have hcl := cutb_le 62 ((us T).drop (k + 1))
   rw [List.length_drop, length_us] at hcl
   have hpc := parseN_cases (displayS ((us T).take k)) (cutb 62 ((us T).drop (k + 1)))
   rw [← hp1] at hpc
   obtain ⟨q, hq⟩ : ∃ q, q = cutb 62 ((us T).drop (k + 1)) := ⟨_, rfl⟩
   obtain ⟨o, ho⟩ : ∃ q, q = optB (displayS ((us T).take k)) := ⟨_, rfl⟩
   rw [← hq] at HCT HHA hcl hpc
   rw [← ho] at HDS hpc
   clear hq ho hex hp1 hah
   obtain ⟨c1, c2, c3⟩ := q
   obtain ⟨dd, dok⟩ := o
   dsimp only at HCT HHA hcl hpc HDS
   have k0 : (0 : Int) ≤ (k : Int) := by omega
   have k1 : (k : Int) ≤ (T.size : Int) := by omega
   have k2 : (k : Int) < (T.size : Int) := by omega
   have k3 : ((k : Int) + 1).toNat = k + 1 := by omega
   have h1l : c1.length ≤ 4294967280 := by omega
   have h2l : c2.length ≤ 4294967280 := by omega
   clear hcl
   rcases hpc with ⟨rfl, hR⟩ | ⟨rfl, h64, hR⟩ | ⟨rfl, h64, rfl, hR⟩ | ⟨rfl, h64, rfl, hR⟩
   iterate 3
    ·
     have HRh := κ hR
     clear hR
     go_wp2_with (first | (go_at_call 132; ((with_reducible refine (HDS.out _).mono ?_); rintro e w1 ⟨rfl, hC⟩); replace hS := hS.call hC; clear hC) | (go_at_call 125; first | ((with_reducible refine (HHA.out _).mono ?_); rintro e w1 ⟨rfl, rfl⟩)) | (go_at_call 122; ((with_reducible refine (HCT.out _).mono ?_); rintro e w1 ⟨rfl, hD⟩); replace hS := hS.drn hD; clear hD) | ((with_reducible refine holdLoad 26 rfl ?_); unfold Hold; refine wpList_loadB (vs := z8A) rfl rfl rfl Tryz.underlying26 (by kernel_rfl) hS.b4 (whole _) ?_) | ((with_reducible refine holdStore 26 rfl ?_); unfold Hold; refine wpList_storeB (vs := z8A) rfl rfl rfl rfl (by kernel_rfl) hS.b2 (Nat.le_of_eq (by kernel_rfl)) (by kernel_rfl) (setAll_whole (by kernel_rfl)) ?_; intro w9 bz9 hfar9 hsz9 hbel9))
     refine bodyPost_ret (results_ct rfl rfl rfl Tryz.underlying26 (by kernel_rfl) bz9) rfl ?_
     exact aErr HRh.out (hS.hB.trans (hbel9 _ (ρ _)))
   ·
    go_wp2_with (first | (go_at_call 132; ((with_reducible refine (HDS.out _).mono ?_); rintro e w1 ⟨rfl, hC⟩); replace hS := hS.call hC; clear hC) | (go_at_call 125; first | ((with_reducible refine (HHA.out _).mono ?_); rintro e w1 ⟨rfl, rfl⟩)) | (go_at_call 122; ((with_reducible refine (HCT.out _).mono ?_); rintro e w1 ⟨rfl, hD⟩); replace hS := hS.drn hD; clear hD) | ((with_reducible refine holdStore 9 rfl ?_); unfold Hold; refine wpList_storeC (off := 0) (v := .string (bs dd)) (cs' := #[.string (bs dd), .string ⟨#[]⟩, .string ⟨#[]⟩, .string ⟨#[]⟩, .int .i64 0, .slice none 0 0, .slice none 0 0, .slice none 0 0]) rfl rfl rfl rfl (by kernel_rfl) hS.b5 (Nat.le_of_ble_eq_true (by kernel_rfl)) (by kernel_rfl) (by kernel_rfl) (by kernel_rfl) ?_; intro w8 b8 hf8 hs8 hl8; replace hS := hS.store b8 hf8 hl8; clear b8 hf8 hs8 hl8))
    go_meet
    case rel => exact ⟨dd, c1, c2, rfl, rfl, hR, h1l, h2l, hS⟩
  ·have a0 : at_ < 0 := by omega
   rw [if_neg h0] at hp1
   clear hal h0 hah
   have HCT := κ (fun wx => cutR_c T (by omega) 59 wx)
   rw [show (((59 : UInt8).toNat : Nat) : Int) = 59 from rfl] at HCT
   have HHA := κ (fun wx => has3_c T (by omega) 59 wx)
   rw [show (((59 : UInt8).toNat : Nat) : Int) = 59 from rfl] at HHA
   rw [hasb_cut] at HHA
   have hcl := cutb_le 59 (us T)
   rw [length_us] at hcl
   have hpc := parseB_cases T
   rw [← hp1] at hpc
   have hcf := cut_fst 59 (us T)
   have hcd := cut_drop 59 (us T)
   have htw := trim_le (cutb 59 (us T)).1
   have hdl : ((us T).drop (cutb 59 (us T)).1.length).length ≤ T.size := by rw [List.length_drop, length_us]; omega
   obtain ⟨q, hq⟩ : ∃ q, q = cutb 59 (us T) := ⟨_, rfl⟩
   rw [← hq] at HCT HHA hcl hpc htw hcf hcd hdl
   clear hq hp1
   obtain ⟨c1, c2, c3⟩ := q
   dsimp only at HCT HHA hcl hpc htw hcf hcd hdl
   have HTW := κ (fun wx => trimR_c (bs c1) (by rw [size_bs]; omega) wx)
   rw [us_bs] at HTW
   obtain ⟨wh, hwh⟩ : ∃ x, x = trim c1 := ⟨_, rfl⟩
   rw [← hwh] at HTW hpc htw
   clear hwh
   have HH1 := κ (fun wx => has3_c (bs wh) (by rw [size_bs]; omega) 63 wx)
   rw [us_bs, show (((63 : UInt8).toNat : Nat) : Int) = 63 from rfl] at HH1
   have HH2 := κ (fun wx => has3_c (bs wh) (by rw [size_bs]; omega) 44 wx)
   rw [us_bs, show (((44 : UInt8).toNat : Nat) : Int) = 44 from rfl] at HH2
   have HH3 := κ (fun wx => has3_c (bs wh) (by rw [size_bs]; omega) 34 wx)
   rw [us_bs, show (((34 : UInt8).toNat : Nat) : Int) = 34 from rfl] at HH3
   have hab := any_barb wh
   obtain ⟨b1, hb1⟩ : ∃ b, b = hasb wh 63 := ⟨_, rfl⟩
   rw [← hb1] at HH1 hab
   clear hb1
   obtain ⟨b2, hb2⟩ : ∃ b, b = hasb wh 44 := ⟨_, rfl⟩
   rw [← hb2] at HH2 hab
   clear hb2
   obtain ⟨b3, hb3⟩ : ∃ b, b = hasb wh 34 := ⟨_, rfl⟩
   rw [← hb3] at HH3 hab
   clear hb3
   obtain ⟨bh, hbh⟩ : ∃ x, x = (us T).drop c1.length := ⟨_, rfl⟩
   rw [← hbh] at hpc hdl
   have hBH : bs bh = (if c3 = true then ⟨#[59]⟩ ++ bs c2 else ⟨#[]⟩) := by
    cases c3
    ·rw [hbh, hcf rfl, List.drop_length]; rfl
    ·rw [hbh, hcd rfl, if_pos rfl, ← us_inj_bs (⟨#[59]⟩ ++ bs c2), us_append, us_bs]; rfl
   clear hcd hbh
   have h1l : wh.length ≤ 4294967280 := by omega
   have h2l : bh.length ≤ 4294967280 := by omega
   have hcs : (⟨#[59]⟩ : ByteArray).size + (bs c2).size ≤ 9223372036854775807 := by rw [size_bs]; show 1 + _ ≤ _; omega
   cases c3
   all_goals
    first | (obtain rfl := hcf rfl; rw [bs_us] at HTW) | skip
    simp only [if_true, Bool.false_eq_true, if_false] at hBH
    clear hcf hcl htw hdl
    rcases hpc with ⟨hb, hR⟩ | ⟨hb, hR⟩
    ·rw [hb] at hab
     clear hb hBH
     cases b1 <;> cases b2 <;> cases b3 <;> first | (cases hab; done) | skip
     all_goals
      clear hab
      have HRh := κ hR
      clear hR
      go_wp2_with (first | (go_at_call 125; first | ((with_reducible refine (HHA.out _).mono ?_); rintro e w1 ⟨rfl, rfl⟩) | ((with_reducible refine (HH1.out _).mono ?_); rintro e w1 ⟨rfl, rfl⟩) | ((with_reducible refine (HH2.out _).mono ?_); rintro e w1 ⟨rfl, rfl⟩) | ((with_reducible refine (HH3.out _).mono ?_); rintro e w1 ⟨rfl, rfl⟩)) | (go_at_call 122; ((with_reducible refine (HCT.out _).mono ?_); rintro e w1 ⟨rfl, hD⟩); replace hS := hS.drn hD; clear hD) | (go_at_call 130; first | ((with_reducible refine (HTW.out _).mono ?_); rintro e w1 ⟨rfl, rfl⟩)) | ((with_reducible refine holdLoad 26 rfl ?_); unfold Hold; refine wpList_loadB (vs := z8A) rfl rfl rfl Tryz.underlying26 (by kernel_rfl) hS.b4 (whole _) ?_) | ((with_reducible refine holdStore 26 rfl ?_); unfold Hold; refine wpList_storeB (vs := z8A) rfl rfl rfl rfl (by kernel_rfl) hS.b2 (Nat.le_of_eq (by kernel_rfl)) (by kernel_rfl) (setAll_whole (by kernel_rfl)) ?_; intro w9 bz9 hfar9 hsz9 hbel9))
      refine bodyPost_ret (results_ct rfl rfl rfl Tryz.underlying26 (by kernel_rfl) bz9) rfl ?_
      exact aErr HRh.out (hS.hB.trans (hbel9 _ (ρ _)))
    ·rw [hb] at hab
     obtain ⟨rfl, rfl, rfl⟩ : b1 = false ∧ b2 = false ∧ b3 = false := by revert hab; cases b1 <;> cases b2 <;> cases b3 <;> decide
     clear hab hb
     have HBH := κ hBH
     clear hBH
     go_wp2_with (first | (go_at_call 125; first | ((with_reducible refine (HHA.out _).mono ?_); rintro e w1 ⟨rfl, rfl⟩) | ((with_reducible refine (HH1.out _).mono ?_); rintro e w1 ⟨rfl, rfl⟩) | ((with_reducible refine (HH2.out _).mono ?_); rintro e w1 ⟨rfl, rfl⟩) | ((with_reducible refine (HH3.out _).mono ?_); rintro e w1 ⟨rfl, rfl⟩)) | (go_at_call 122; ((with_reducible refine (HCT.out _).mono ?_); rintro e w1 ⟨rfl, hD⟩); replace hS := hS.drn hD; clear hD) | (go_at_call 130; first | ((with_reducible refine (HTW.out _).mono ?_); rintro e w1 ⟨rfl, rfl⟩)))
     go_meet
     case rel => exact ⟨[], wh, bh, rfl, by rw [HBH.out], hR, h1l, h2l, hS⟩
 case rest =>
  obtain ⟨d, wh, bh, rfl, rfl, hR, hwl, hbl, hS⟩ := hcut
  clear hp1 hal hah sT
  have HPU := κ (fun wx => parseUR_c (bs wh) (by rw [size_bs]; exact hwl) wx)
  rw [us_bs] at HPU
  have HPA := κ (fun wx => partsRF_c (bs bh) (by rw [size_bs]; omega) 59 wx)
  rw [us_bs, show (((59 : UInt8).toNat : Nat) : Int) = 59 from rfl] at HPA
  have hpb := parts_bd 59 bh
  have hpn := parts_ne 59 bh
  unfold parseA2 at hR
  obtain ⟨h, tl, hpt⟩ : ∃ h tl, parts bh 59 = h :: tl := ⟨_, _, (List.cons_head_tail hpn).symm⟩
  rw [hpt] at HPA hpb hR
  have hR := hR.trans (show _ = endA d (parseU wh) h (fieldsS tl) from rfl)
  have hcs := endA_cases d (parseU wh) h (fieldsS tl)
  rw [← hR] at hcs
  have hhl := hpb h (List.mem_cons_self ..)
  have HTH := κ (fun wx => trimR_c (bs h) (by rw [size_bs]; omega) wx)
  rw [us_bs] at HTH
  have HFI := κ (fun wx v hv => fieldsR_c v tl wx hv (fun p hp => Nat.le_trans (hpb p (List.mem_cons_of_mem _ hp)) hbl))
  obtain ⟨PU_, hPU⟩ : ∃ x, x = parseU wh := ⟨_, rfl⟩
  obtain ⟨FI, hFI⟩ : ∃ x, x = fieldsS tl := ⟨_, rfl⟩
  obtain ⟨th, hth⟩ : ∃ x, x = trim h := ⟨_, rfl⟩
  rw [← hPU] at HPU hcs
  rw [← hFI] at HFI hcs
  rw [← hth] at HTH hcs
  unfold UriPost sv at HPU
  clear hPU hFI hth hhl hpb hpn hpt hR
  obtain ⟨⟨usc, uus, uho, upo, ups, uhs⟩, pe⟩ := PU_
  obtain ⟨fi, fe⟩ := FI
  dsimp only at HPU hcs HFI
  go_upto_region 19 with (first | (go_at_call 68; refine (HPU.out _).mono ?_; rintro e w2 ⟨v1, v2, rfl, j1, j2, f1, f2, hC⟩; have hsz := hS.b5.lt; have f1 := f1.mono (Nat.succ_le_of_lt hsz); have f2 := f2.mono (Nat.succ_le_of_lt hsz); replace hS := hS.call hC; obtain ⟨o1, p1, rfl⟩ := j1.form'; obtain ⟨o2, p2, rfl⟩ := j2.form'; clear hC hsz) | ((with_reducible refine holdStore 24 rfl ?_); unfold Hold; refine wpList_storeNew (vs := #[.string (bs usc), .string (bs uus), .string (bs uho), .int .i64 upo, .slice o1 ups.length p1, .slice o2 uhs.length p2]) rfl rfl rfl rfl (by kernel_rfl) (by kernel_rfl) (by kernel_rfl) ?_; refine wpList_to (fun x => ∃ gu, PA w ga #[.string (bs d), .string ⟨#[]⟩, .string ⟨#[]⟩, .string ⟨#[]⟩, .int .i64 0, .slice none 0 0, .slice none 0 0, .slice none 0 0] x ∧ Blk x gu 24 #[.string (bs usc), .string (bs uus), .string (bs uho), .int .i64 upo, .slice o1 ups.length p1, .slice o2 uhs.length p2] ∧ RPrms x (.slice o1 ups.length p1) ups ∧ RPrms x (.slice o2 uhs.length p2) uhs ∧ gu = w2.heap.size ∧ ga < gu) ⟨_, hS.call ((Below.refl _ _).alloc (ρ _) _), Blk.new _ _ _, j1.below ((Below.refl _ _).alloc (ρ _) _) (ρ _), j2.below ((Below.refl _ _).alloc (ρ _) _) (ρ _), rfl, hS.b5.lt⟩ ?_; clear hS j1 j2; rintro w4 ⟨gu, hS, bu, j1, j2, hge, hgu⟩; rw [← hge]; clear hge))
  by_cases hpe : pe = 0
  rotate_left
  ·have tne : (pe != 0) = true := by simpa using hpe
   have HR : R = (adr0, pe) := by rcases hcs with ⟨_, e⟩ | ⟨h9, _⟩ | ⟨h9, _⟩ | ⟨h9, _⟩; exact e; all_goals exact absurd h9 hpe
   clear hcs hpe
   have HRh := κ HR
   clear HR
   go_wp2_with (first | ((with_reducible refine holdLoad 26 rfl ?_); unfold Hold; refine wpList_loadB (vs := z8A) rfl rfl rfl Tryz.underlying26 (by kernel_rfl) hS.b4 (whole _) ?_) | ((with_reducible refine holdStore 26 rfl ?_); unfold Hold; refine wpList_storeB (vs := z8A) rfl rfl rfl rfl (by kernel_rfl) hS.b2 (Nat.le_of_eq (by kernel_rfl)) (by kernel_rfl) (setAll_whole (by kernel_rfl)) ?_; intro w9 bz9 hfar9 hsz9 hbel9))
   refine bodyPost_ret (results_ct rfl rfl rfl Tryz.underlying26 (by kernel_rfl) bz9) rfl ?_
   exact aErr HRh.out (hS.hB.trans (hbel9 _ (ρ _)))
  subst hpe
  go_upto_region 22 with (go_at_call 133; refine (HPA.out _).mono ?_; rintro e w5 ⟨v, rfl, hv0, hC⟩; have hv := hv0.read; replace hS := hS.call hC; replace bu := bu.call hC; replace j1 := j1.below hC (ρ _); replace j2 := j2.below hC (ρ _); obtain ⟨ao, cap, rfl, hmx, cc⟩ := hv.form; clear hC hv0)
  obtain ⟨b, off, e9, _, c1⟩ := cc (by simp)
  subst e9
  have x0 : w5.cell? ⟨b, off, none⟩ = some (.string (bs h)) := c1 0 (by simp)
  clear c1 cc
  unfold maxLen at hmx
  by_cases hth : th = []
  rotate_left
  ·have pI : th.isEmpty = false := by cases th with | nil => exact absurd rfl hth | cons => rfl
   have HR : R = (adr0, 50) := by rcases hcs with ⟨h9, _⟩ | ⟨_, _, e⟩ | ⟨_, h9, _⟩ | ⟨_, h9, _⟩; exact absurd rfl h9; exact e; all_goals exact absurd h9 hth
   clear hcs hth
   have HRh := κ HR
   clear HR
   go_wp2_with (first | (go_at_call 130; first | ((with_reducible refine (HTH.out _).mono ?_); rintro e w1 ⟨rfl, rfl⟩)) | ((with_reducible refine holdLoad 26 rfl ?_); unfold Hold; refine wpList_loadB (vs := z8A) rfl rfl rfl Tryz.underlying26 (by kernel_rfl) hS.b4 (whole _) ?_) | ((with_reducible refine holdStore 26 rfl ?_); unfold Hold; refine wpList_storeB (vs := z8A) rfl rfl rfl rfl (by kernel_rfl) hS.b2 (Nat.le_of_eq (by kernel_rfl)) (by kernel_rfl) (setAll_whole (by kernel_rfl)) ?_; intro w9 bz9 hfar9 hsz9 hbel9))
   refine bodyPost_ret (results_ct rfl rfl rfl Tryz.underlying26 (by kernel_rfl) bz9) rfl ?_
   exact aErr HRh.out (hS.hB.trans (hbel9 _ (ρ _)))
  subst hth
  rw [show bs ([] : List UInt8) = ByteArray.empty from rfl] at HTH
  have hTA := fun h => RStrs.tailA hv h
  have hTB := RStrs.tailB hv
  by_cases hc1 : cap = 1
  all_goals first
   | (have h0 : cap = 1 := hc1; replace hTA := hTA h0; subst hc1; go_upto_region 25 with (first | (go_at_call 130; first | ((with_reducible refine (HTH.out _).mono ?_); rintro e w1 ⟨rfl, rfl⟩)) | (go_at_call 134; refine (HFI.out _ _ (hTA)).mono ?_; rintro e w6 ⟨u3, rfl, j3, f3, hC⟩; have f3 := f3.mono (Nat.succ_le_of_lt hS.b5.lt); replace hS := hS.call hC; replace bu := bu.call hC; replace j1 := j1.below hC (ρ _); replace j2 := j2.below hC (ρ _); obtain ⟨o3, p3, rfl⟩ := j3.form'; clear hC)))
   | go_upto_region 25 with (first | (go_at_call 130; first | ((with_reducible refine (HTH.out _).mono ?_); rintro e w1 ⟨rfl, rfl⟩)) | (go_at_call 134; refine (HFI.out _ _ (hTB)).mono ?_; rintro e w6 ⟨u3, rfl, j3, f3, hC⟩; have f3 := f3.mono (Nat.succ_le_of_lt hS.b5.lt); replace hS := hS.call hC; replace bu := bu.call hC; replace j1 := j1.below hC (ρ _); replace j2 := j2.below hC (ρ _); obtain ⟨o3, p3, rfl⟩ := j3.form'; clear hC))
  all_goals (
  clear hTA hTB hv x0
  by_cases hfe : fe = 0
  rotate_left
  ·have tne : (fe != 0) = true := by simpa using hfe
   have HR : R = (adr0, fe) := by rcases hcs with ⟨h9, _⟩ | ⟨_, h9, _⟩ | ⟨_, _, _, e⟩ | ⟨_, _, h9, _⟩; exact absurd rfl h9; exact absurd rfl h9; exact e; exact absurd h9 hfe
   clear hcs hfe
   have HRh := κ HR
   clear HR
   go_wp2_with (first | ((with_reducible refine holdLoad 26 rfl ?_); unfold Hold; refine wpList_loadB (vs := z8A) rfl rfl rfl Tryz.underlying26 (by kernel_rfl) hS.b4 (whole _) ?_) | ((with_reducible refine holdStore 26 rfl ?_); unfold Hold; refine wpList_storeB (vs := z8A) rfl rfl rfl rfl (by kernel_rfl) hS.b2 (Nat.le_of_eq (by kernel_rfl)) (by kernel_rfl) (setAll_whole (by kernel_rfl)) ?_; intro w9 bz9 hfar9 hsz9 hbel9))
   refine bodyPost_ret (results_ct rfl rfl rfl Tryz.underlying26 (by kernel_rfl) bz9) rfl ?_
   exact aErr HRh.out (hS.hB.trans (hbel9 _ (ρ _)))
  subst hfe
  have HR : R = (⟨d, ⟨usc, uus, uho, upo, ups, uhs⟩, fi⟩, 0) := by rcases hcs with ⟨h9, _⟩ | ⟨_, h9, _⟩ | ⟨_, _, h9, _⟩ | ⟨_, _, _, e⟩; exact absurd rfl h9; exact absurd rfl h9; exact absurd rfl h9; exact e
  have HRR := κ HR
  clear hcs HR
  go_upto_region 28 with (first | ((with_reducible refine holdLoad 24 rfl ?_); unfold Hold; refine wpList_loadB rfl rfl rfl Tryz.underlying24 (by kernel_rfl) bu (whole _) ?_) | ((with_reducible refine holdStore 24 rfl ?_); unfold Hold; refine wpList_storeB (off := 1) (vs := #[.string (bs usc), .string (bs uus), .string (bs uho), .int .i64 upo, .slice o1 ups.length p1, .slice o2 uhs.length p2]) (cs' := #[.string (bs d), .string (bs usc), .string (bs uus), .string (bs uho), .int .i64 upo, .slice o1 ups.length p1, .slice o2 uhs.length p2, .slice none 0 0]) rfl rfl rfl rfl (by kernel_rfl) hS.b5 (Nat.le_of_ble_eq_true (by kernel_rfl)) (by kernel_rfl) (by kernel_rfl) ?_; intro w8 b8 hf8 hs8 hl8; replace j1 := Off.prms j1 (Off.fresh f1 (Nat.lt_succ_self _)) hf8 (Nat.le_of_eq hs8.symm); replace j2 := Off.prms j2 (Off.fresh f2 (Nat.lt_succ_self _)) hf8 (Nat.le_of_eq hs8.symm); replace j3 := Off.prms j3 (Off.fresh f3 (Nat.lt_succ_self _)) hf8 (Nat.le_of_eq hs8.symm); replace hS := hS.store b8 hf8 hl8; clear b8 hf8 hs8 hl8) | ((with_reducible refine holdStore 22 rfl ?_); unfold Hold; refine wpList_storeC (off := 7) (v := .slice o3 fi.length p3) (cs' := #[.string (bs d), .string (bs usc), .string (bs uus), .string (bs uho), .int .i64 upo, .slice o1 ups.length p1, .slice o2 uhs.length p2, .slice o3 fi.length p3]) rfl rfl rfl rfl (by kernel_rfl) hS.b5 (Nat.le_of_ble_eq_true (by kernel_rfl)) (by kernel_rfl) (by kernel_rfl) (by kernel_rfl) ?_; intro w8 b8 hf8 hs8 hl8; replace j1 := Off.prms j1 (Off.fresh f1 (Nat.lt_succ_self _)) hf8 (Nat.le_of_eq hs8.symm); replace j2 := Off.prms j2 (Off.fresh f2 (Nat.lt_succ_self _)) hf8 (Nat.le_of_eq hs8.symm); replace j3 := Off.prms j3 (Off.fresh f3 (Nat.lt_succ_self _)) hf8 (Nat.le_of_eq hs8.symm); replace hS := hS.store b8 hf8 hl8; clear b8 hf8 hs8 hl8))
  go_wp2_with (first | ((with_reducible refine holdLoad 26 rfl ?_); unfold Hold; refine wpList_loadB rfl rfl rfl Tryz.underlying26 (by kernel_rfl) hS.b5 (whole _) ?_) | ((with_reducible refine holdStore 26 rfl ?_); unfold Hold; refine wpList_storeB (vs := #[.string (bs d), .string (bs usc), .string (bs uus), .string (bs uho), .int .i64 upo, .slice o1 ups.length p1, .slice o2 uhs.length p2, .slice o3 fi.length p3]) rfl rfl rfl rfl (by kernel_rfl) hS.b2 (Nat.le_of_eq (by kernel_rfl)) (by kernel_rfl) (setAll_whole (by kernel_rfl)) ?_; intro w9 bz9 hfar9 hsz9 hbel9))
  refine bodyPost_ret (results_ct rfl rfl rfl Tryz.underlying26 (by kernel_rfl) bz9) rfl ?_
  have hlt := hS.lt
  rw [HRR.out]
  exact ⟨_, _, _, rfl, Off.prms j1 (Off.fresh f1 (by omega)) hfar9 (Nat.le_of_eq hsz9.symm), Off.prms j2 (Off.fresh f2 (by omega)) hfar9 (Nat.le_of_eq hsz9.symm), Off.prms j3 (Off.fresh f3 (by omega)) hfar9 (Nat.le_of_eq hsz9.symm), f1.mono (by omega), f2.mono (by omega), f3.mono (by omega), hS.hB.trans (hbel9 _ (ρ _))⟩)
end Go.Proofs.YtipdiddjhimdcaaGreatDoor
