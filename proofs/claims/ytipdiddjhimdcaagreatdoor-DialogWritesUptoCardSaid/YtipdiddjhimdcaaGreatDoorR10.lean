/- Contracts of Go functions, and plain laws. No condition but those told. -/
import Derived.Test.YtipdiddjhimdcaaGreatDoorR09
import Derived.Test.YtipdiddjhimdcaaGreatDoorR04
import Derived.Maps.OwnOps
import Derived.Maps.Views
import Derived.Test.YtipdiddjhimdcaaGreatDoorR03
import Derived.Test.YtipdiddjhimdcaaGreatDoorShelf
import Derived.Lib.Builder
import Derived.Lib.AppendStr
import Derived.Lib.UnsafeStr
import Derived.Laws.Externs
set_option linter.unusedSimpArgs false
set_option linter.unusedVariables false
set_option maxRecDepth 100000
namespace Go.Proofs.YtipdiddjhimdcaaGreatDoor
open Go.RowKit Go.Maps
open Go.WideMaps (keyOf_string_mk)
theorem undS : Tryz.prog.underlying 9 = some .string := by kernel_rfl
theorem undI : Tryz.prog.underlying 3 = some (.int .i64) := by kernel_rfl
theorem undM : Tryz.prog.underlying 206 = some (.map 9 3) := by kernel_rfl
theorem lawS : Keyed Tryz.prog 9 := string_keyed undS
theorem zeroI (w : World) : (zeroValue 3).run Tryz.prog w = .ok (.int .i64 0) w := by kernel_rfl
def z0 : DataW Unit := .lit (.int .i64 0)
def cntL (d : List Prm) (x : List UInt8) : Nat := (d.filter fun q => lowr q.name == x).length
def CntIs (D : DataW Unit) (d : List Prm) : Prop := IsMap D ∧ ∀ x : List UInt8, D.atKey (.string x) z0 = .lit (.int .i64 (cntL d x))
theorem cnt_nil : CntIs (.map []) [] := ⟨isMap_empty, fun _ => rfl⟩
theorem isKey_str (x : List UInt8) (h : x.length ≤ maxLen) : WideAt.IsKeyLit (.string x) := by
 have := keyOf_string_mk (P := Tryz.prog) (k := 9) undS (s := bs x) (by rw [size_bs]; exact h)
 exact lawS.key this
theorem cnt_step {D : DataW Unit} {d : List Prm} (h : CntIs D d) (p : Prm) (hp : p.name.length ≤ 4294967280) :
  CntIs (D.put (.string (lowr p.name)) (.lit (.int .i64 ((cntL d (lowr p.name) : Int) + 1)))) (d ++ [p]) := by
 refine ⟨h.1.put _ _, fun x => ?_⟩
 by_cases hx : x = lowr p.name
 ·subst hx
  rw [atKey_put_same h.1 (isKey_str _ (by rw [lowr_length]; unfold maxLen; omega))]
  unfold cntL
  rw [List.filter_append, List.length_append, List.filter_cons_of_pos (by simp)]
  simp
 ·rw [atKey_put_other (by intro e; injection e with e; exact hx e), h.2]
  unfold cntL
  rw [List.filter_append, List.filter_cons_of_neg (by simpa using fun e => hx e.symm)]
  simp
theorem cnt_twice (d : List Prm) (n : List UInt8) : twiceU d n = decide (0 < cntL d (lowr n)) := by
 unfold twiceU cntL same
 rw [Bool.eq_iff_iff, decide_eq_true_iff, List.any_eq_true, List.length_pos_iff_exists_mem]
 constructor
 ·rintro ⟨q, hq, h⟩; exact ⟨q, List.mem_filter.2 ⟨hq, h⟩⟩
 ·rintro ⟨q, hq⟩; exact ⟨q, (List.mem_filter.1 hq).1, (List.mem_filter.1 hq).2⟩
theorem cnt_le (d : List Prm) (x : List UInt8) : cntL d x ≤ d.length := List.length_filter_le _ _
theorem own_below {w w' : World} {P : Program} {k : TypeId} {R : Value → Option (DataW Unit × List MemPlace)} {b n B : Nat} {D : DataW Unit} (h : w.ownsMap P k R b n D) (hB : Below B w w') (hb : b < B) : w'.ownsMap P k R b n D := by
 obtain ⟨es, clock, hh, rest⟩ := h
 exact ⟨es, clock, (hB.block b hb).trans hh, rest⟩
theorem blk_grown {w w' : World} {g b : Nat} {t : TypeId} {cs : Array Value} (h : Blk w g t cs) (hg : w.grownBy w' (some b)) (hne : g ≠ b) : Blk w' g t cs := by
 have h1 : w.heap[g]? = some (.cells cs t (0, 0)) := h
 exact (hg.block g (Array.getElem?_eq_some_iff.1 h1).1 (by simpa using hne)).trans h1
theorem list_bad (L : List Prm) (k : Nat) (hk : k < L.length) (hp : listGo [] L = listGo (L.take k) (L.drop k)) (h : okU L[k] = false ∨ twiceU (L.take k) L[k].name = true) : listU L = false := by
 unfold listU
 rw [hp, List.drop_eq_getElem_cons hk, listGo]
 rcases h with h | h <;> rw [h] <;> simp
theorem list_next (L : List Prm) (k : Nat) (hk : k < L.length) (hp : listGo [] L = listGo (L.take k) (L.drop k)) (h : okU L[k] = true) (h2 : twiceU (L.take k) L[k].name = false) : listGo [] L = listGo (L.take (k + 1)) (L.drop (k + 1)) := by
 rw [hp, List.drop_eq_getElem_cons hk, listGo, h, h2, List.take_succ_eq_append_getElem hk]; simp
theorem list_end (L : List Prm) (k : Nat) (hk : L.length ≤ k) (h16 : L.length ≤ 16) (hp : listGo [] L = listGo (L.take k) (L.drop k)) : listU L = true := by
 unfold listU
 rw [hp, List.drop_eq_nil_iff.2 hk, listGo, decide_eq_true h16]; rfl
theorem list_long (L : List Prm) (h : ¬ L.length ≤ 16) : listU L = false := by
 unfold listU; rw [decide_eq_false h]; rfl
theorem okU_cases (p : Prm) (N V : ByteArray) (hN : N.size = p.name.length) (hV : V.size = p.value.length) (tw : Bool) :
  (N.size = 0 ∧ okU p = false) ∨ (N.size ≠ 0 ∧ 64 < N.size ∧ okU p = false) ∨ (N.size ≠ 0 ∧ ¬ 64 < N.size ∧ 64 < V.size ∧ okU p = false) ∨
  (N.size ≠ 0 ∧ ¬ 64 < N.size ∧ ¬ 64 < V.size ∧ tw = true) ∨ (N.size ≠ 0 ∧ ¬ 64 < N.size ∧ ¬ 64 < V.size ∧ tw = false ∧ p.has = false ∧ V.size ≠ 0 ∧ okU p = false) ∨
  (N.size ≠ 0 ∧ ¬ 64 < N.size ∧ ¬ 64 < V.size ∧ tw = false ∧ p.has = false ∧ V.size = 0 ∧ okU p = true) ∨ (N.size ≠ 0 ∧ ¬ 64 < N.size ∧ ¬ 64 < V.size ∧ tw = false ∧ p.has = true ∧ okU p = true) := by
 have e : okU p = (decide (N.size ≠ 0) && decide (N.size ≤ 64) && decide (V.size ≤ 64) && (p.has || decide (V.size = 0))) := by
  unfold okU
  rw [← hN, ← hV]
  congr 1
  ·congr 1; congr 1
   rw [Bool.eq_iff_iff, decide_eq_true_iff, decide_eq_true_iff]; omega
  ·congr 1
   rw [Bool.eq_iff_iff, beq_iff_eq, decide_eq_true_iff, hV, List.length_eq_zero_iff]
 rw [e]
 by_cases h1 : N.size = 0
 ·exact .inl ⟨h1, by simp [h1]⟩
 refine .inr ?_
 by_cases h2 : 64 < N.size
 ·exact .inl ⟨h1, h2, by rw [show decide (N.size ≤ 64) = false from decide_eq_false (by omega)]; simp⟩
 refine .inr ?_
 by_cases h3 : 64 < V.size
 ·exact .inl ⟨h1, h2, h3, by rw [show decide (V.size ≤ 64) = false from decide_eq_false (by omega)]; simp⟩
 refine .inr ?_
 cases tw
 case true => exact .inl ⟨h1, h2, h3, rfl⟩
 refine .inr ?_
 have a1 : decide (N.size ≠ 0) = true := decide_eq_true h1
 have a2 : decide (N.size ≤ 64) = true := decide_eq_true (by omega)
 have a3 : decide (V.size ≤ 64) = true := decide_eq_true (by omega)
 rw [a1, a2, a3]
 cases hh : p.has
 ·by_cases h4 : V.size = 0
  ·exact .inr (.inl ⟨h1, h2, h3, rfl, rfl, h4, by simp [h4]⟩)
  ·exact .inl ⟨h1, h2, h3, rfl, rfl, h4, by simp [h4]⟩
 ·exact .inr (.inr ⟨h1, h2, h3, rfl, rfl, by simp⟩)
set_option maxHeartbeats 6400000 in
theorem listF_c (v : Value) (L : List Prm) (w : World) (h1 : RPrms w v L) (hbd : ∀ p ∈ L, p.name.length ≤ 4294967280 ∧ p.value.length ≤ 4294967280) :
  Calls Tryz.prog 142 #[v] w fun e w' => e = .returned (.bool (listU L)) ∧ Below w.heap.size w w' := by
 obtain ⟨ao, cap, rfl, hm1, c1⟩ := h1.form
 have C1 := κ c1
 have HBD := κ hbd
 clear c1 h1 hbd
 unfold maxLen at hm1
 have hmm := @run_makeMap Tryz.prog
 by_cases h16 : L.length ≤ 16
 case neg =>
  have HE := κ (list_long L h16)
  go_enter Tryz.func142, Tryz.ntmps142
  go_wp2
  go_ret
  exact ⟨ret_bool HE.out.symm, Below.refl _ _⟩
 ·have HLB := κ (fun k hk => list_bad L k hk)
  have HLN := κ (fun k hk => list_next L k hk)
  have HLE := κ (fun k hk => list_end L k hk h16)
  go_enter Tryz.func142, Tryz.ntmps142
  go_wp2
  go_loopw [13] (fun i wr => ∃ (k : Nat) (D : DataW Unit), k ≤ L.length ∧ i = .int .i64 k ∧ wr.ownsMap Tryz.prog 9 (plainElem Tryz.prog 3) w.heap.size k D ∧ Hid (CntIs D (L.take k)) ∧ Hid (Below w.heap.size w wr) ∧ Hid (listGo [] L = listGo (L.take k) (L.drop k))) (fun i _ => L.length - (intOf i).toNat)
  case atStart => exact ⟨0, .map [], Nat.zero_le _, rfl, World.ownsMap_made _ _ _ _, κ cnt_nil, κ ((Below.refl _ _).alloc (ρ _) _), κ rfl⟩
  case round =>
   obtain ⟨k, D, hk, rfl, hown, HC, HB, HP⟩ := hrel
   by_cases hlt : k < L.length
   ·obtain ⟨b, off, rfl, hb1, hc1⟩ := C1.out (by omega)
    have x0 : wr.cell? ⟨b, off + k * 3, none⟩ = some (.string (bs L[k].name)) := by rw [HB.out.cell (p := ⟨b, off + k * 3, none⟩) hb1]; exact (hc1 k hlt).1
    have x1 : wr.cell? ⟨b, off + k * 3 + 1, none⟩ = some (.string (bs L[k].value)) := by rw [HB.out.cell (p := ⟨b, off + k * 3 + 1, none⟩) hb1]; exact (hc1 k hlt).2.1
    have x2 : wr.cell? ⟨b, off + k * 3 + 2, none⟩ = some (.bool L[k].has) := by rw [HB.out.cell (p := ⟨b, off + k * 3 + 2, none⟩) hb1]; exact (hc1 k hlt).2.2
    have hpb := HBD.out _ (List.getElem_mem hlt)
    have hcs := okU_cases L[k] (bs L[k].name) (bs L[k].value) (size_bs _) (size_bs _) (twiceU (L.take k) L[k].name)
    have hct := cnt_twice (L.take k) L[k].name
    have hcl := cnt_le (L.take k) (lowr L[k].name)
    rw [List.length_take, Nat.min_eq_left (by omega)] at hcl
    have hst := cnt_step HC.out L[k] hpb.1
    have hat0 := HC.out.2 (lowr L[k].name)
    have hatk := atKey_put_same (D := D) (k := .string (lowr L[k].name)) HC.out.1 (isKey_str _ (by rw [lowr_length]; unfold maxLen; omega)) (.lit (.int .i64 ((cntL (L.take k) (lowr L[k].name) : Int) + 1))) z0
    have HL := κ (fun wx => lowerP_c (bs L[k].name) (by rw [size_bs]; omega) wx)
    rw [us_bs] at HL
    have hkey : keyOf Tryz.prog 9 (.string (bs (lowr L[k].name))) = some (.string (lowr L[k].name)) := by
     have := keyOf_string_mk (P := Tryz.prog) (k := 9) undS (s := bs (lowr L[k].name)) (by rw [size_bs, lowr_length]; unfold maxLen; omega)
     rw [this]; simp [bs]
    obtain ⟨c0, hc0⟩ : ∃ c, c = cntL (L.take k) (lowr L[k].name) := ⟨_, rfl⟩
    rw [← hc0] at hct hcl hst hat0 hatk
    rw [← List.take_succ_eq_append_getElem hlt] at hst
    obtain ⟨tw, htw⟩ : ∃ t, t = twiceU (L.take k) L[k].name := ⟨_, rfl⟩
    rw [← htw] at hcs hct
    obtain ⟨kl, hkl⟩ : ∃ l, l = lowr L[k].name := ⟨_, rfl⟩
    rw [← hkl] at hst hat0 hatk hkey HL
    obtain ⟨LW, hLW⟩ : ∃ l, l = bs kl := ⟨_, rfl⟩
    rw [← hLW] at hkey HL
    obtain ⟨N, hN⟩ : ∃ N, N = bs L[k].name := ⟨_, rfl⟩
    rw [← hN] at x0 hcs HL
    obtain ⟨V, hV⟩ : ∃ V, V = bs L[k].value := ⟨_, rfl⟩
    rw [← hV] at x1 hcs
    have hNs : N.size ≤ 4294967280 := by rw [hN, size_bs]; omega
    have hVs : V.size ≤ 4294967280 := by rw [hV, size_bs]; omega
    have HCC := κ (fun (c : Int) (h : D.atKey (.string kl) (.lit (.int .i64 0)) = .lit (.int .i64 c)) => (show (c0 : Int) = c from by have := hat0.symm.trans h; injection this with this; injection this))
    have HCD := κ (fun (c : Int) (h : (D.put (.string kl) (.lit (.int .i64 ((c0 : Int) + 1)))).atKey (.string kl) (.lit (.int .i64 0)) = .lit (.int .i64 c)) => (show (c0 : Int) + 1 = c from by have := hatk.symm.trans h; injection this with this; injection this))
    have HK := κ hkey
    have HST := κ hst
    have HTW := κ htw
    have c16 : c0 ≤ 16 := by omega
    have c00 : (0 : Int) ≤ (c0 : Int) := by omega
    have k0 : (0 : Int) ≤ (k : Int) := by omega
    have k1 : (k : Int) < (L.length : Int) := by omega
    have hwl := hown.lt
    obtain ⟨h, hh⟩ : ∃ h, h = L[k].has := ⟨_, rfl⟩
    rw [← hh] at x2 hcs
    have bm0 : Blk (wr.alloc (.cells #[.string N, .string V, .bool h] 85)) wr.heap.size 85 #[.string N, .string V, .bool h] := Blk.new _ _ _
    have hownp := own_below hown ((Below.refl wr.heap.size wr).alloc (ρ _) (.cells #[.string N, .string V, .bool h] 85)) hwl
    have hBp := HB.out.alloc (Nat.le_of_lt hwl) (.cells #[.string N, .string V, .bool h] 85)
    obtain ⟨wp, hwp⟩ : ∃ wp, wp = wr.alloc (.cells #[.string N, .string V, .bool h] 85) := ⟨_, rfl⟩
    rw [← hwp] at bm0 hownp hBp
    have hltp := hownp.lt
    have HWP := κ hwp
    have HBP := κ hBp
    have HNE := κ (show wr.heap.size ≠ w.heap.size by omega)
    clear hc1 hb1 hpb hst hat0 hatk hkey hc0 htw hkl hLW hN hV hh hwp hBp
    rcases hcs with ⟨n1, ho⟩ | ⟨n1, n2, ho⟩ | ⟨n1, n2, n3, ho⟩ | ⟨n1, n2, n3, rfl⟩ | ⟨n1, n2, n3, rfl, rfl, n4, ho⟩ | ⟨n1, n2, n3, rfl, rfl, n4, ho⟩ | ⟨n1, n2, n3, rfl, rfl, ho⟩
    obtain rfl := eq_empty n1
    clear n1
    have HE := κ (HLB.out k hlt HP.out (.inl ho))
    rotate_left
    have pE := ne_empty n1
    have pF := isEmpty_f n1
    have HE := κ (HLB.out k hlt HP.out (.inl ho))
    rotate_left
    have pE := ne_empty n1
    have pF := isEmpty_f n1
    have HE := κ (HLB.out k hlt HP.out (.inl ho))
    rotate_left
    have pE := ne_empty n1
    have pF := isEmpty_f n1
    have c1 : (1 : Int) < (c0 : Int) + 1 := by have := of_decide_eq_true hct.symm; omega
    clear hct
    have HE := κ (HLB.out k hlt HP.out (.inr HTW.out.symm))
    rotate_left
    have pE := ne_empty n1
    have pF := isEmpty_f n1
    have c1 : ¬ ((1 : Int) < (c0 : Int) + 1) := by have := of_decide_eq_false hct.symm; omega
    clear hct
    have qE := ne_empty n4
    have qF := isEmpty_f n4
    have HE := κ (HLB.out k hlt HP.out (.inl ho))
    rotate_left
    ·have pE := ne_empty n1
     have pF := isEmpty_f n1
     have c1 : ¬ ((1 : Int) < (c0 : Int) + 1) := by have := of_decide_eq_false hct.symm; omega
     clear hct
     obtain rfl := eq_empty n4
     clear n4
     have HN := κ (HLN.out k hlt HP.out ho HTW.out.symm)
     go_wp2_with (first | (go_at_call 96; (try rw [← HWP.out]); refine (HL.out _).mono ?_; rintro e w1 ⟨rfl, hC1⟩; have bm1 := bm0.call hC1; have hown1 := own_below hownp hC1 hltp; have hB1 := HBP.out.trans (hC1.mono HBP.out.size); have HBS := κ hB1; obtain ⟨c3, hrun1, hat3, hwc3⟩ := hown1.lookup_int lawS undM undI (zeroI _) HK.out; obtain rfl := HCC.out c3 hat3; clear hat3 hwc3) | (at_mapUpdate; refine wpList_mapUpdate_own _ rfl _ _ _ 206 rfl 9 3 lawS undM _ w.heap.size k _ rfl hown1 (by unfold maxLen; omega) _ _ _ rfl rfl HK.out _ [] (plainElem_int undI (WalkArith.wf_i64 (by omega))) ?_; intro w2 hown2 hgrow2; have bm2 := blk_grown bm1 hgrow2 HNE.out; have hB2 := HBS.out.grown hgrow2 HBS.out.size (fun j hj => by cases hj; exact ρ _); obtain ⟨r0, r1, r2, f0, f1, f2, hz⟩ := bm2.f3; obtain ⟨c2, hrun, hat2, hwc2⟩ := hown2.lookup_int lawS undM undI (zeroI _) HK.out; obtain rfl := HCD.out c2 hat2; clear hat2 hwc2))
     go_roundw
     case rel => exact ⟨k + 1, _, by omega, by go_num, hown2, HST, κ hB2, HN⟩
     case measure => simp [intOf]; omega
    ·have pE := ne_empty n1
     have pF := isEmpty_f n1
     have c1 : ¬ ((1 : Int) < (c0 : Int) + 1) := by have := of_decide_eq_false hct.symm; omega
     clear hct
     have HN := κ (HLN.out k hlt HP.out ho HTW.out.symm)
     go_wp2_with (first | (go_at_call 96; (try rw [← HWP.out]); refine (HL.out _).mono ?_; rintro e w1 ⟨rfl, hC1⟩; have bm1 := bm0.call hC1; have hown1 := own_below hownp hC1 hltp; have hB1 := HBP.out.trans (hC1.mono HBP.out.size); have HBS := κ hB1; obtain ⟨c3, hrun1, hat3, hwc3⟩ := hown1.lookup_int lawS undM undI (zeroI _) HK.out; obtain rfl := HCC.out c3 hat3; clear hat3 hwc3) | (at_mapUpdate; refine wpList_mapUpdate_own _ rfl _ _ _ 206 rfl 9 3 lawS undM _ w.heap.size k _ rfl hown1 (by unfold maxLen; omega) _ _ _ rfl rfl HK.out _ [] (plainElem_int undI (WalkArith.wf_i64 (by omega))) ?_; intro w2 hown2 hgrow2; have bm2 := blk_grown bm1 hgrow2 HNE.out; have hB2 := HBS.out.grown hgrow2 HBS.out.size (fun j hj => by cases hj; exact ρ _); obtain ⟨r0, r1, r2, f0, f1, f2, hz⟩ := bm2.f3; obtain ⟨c2, hrun, hat2, hwc2⟩ := hown2.lookup_int lawS undM undI (zeroI _) HK.out; obtain rfl := HCD.out c2 hat2; clear hat2 hwc2))
     go_roundw
     case rel => exact ⟨k + 1, _, by omega, by go_num, hown2, HST, κ hB2, HN⟩
     case measure => simp [intOf]; omega
    all_goals
     go_wp2_with (first | (go_at_call 96; (try rw [← HWP.out]); refine (HL.out _).mono ?_; rintro e w1 ⟨rfl, hC1⟩; have bm1 := bm0.call hC1; have hown1 := own_below hownp hC1 hltp; have hB1 := HBP.out.trans (hC1.mono HBP.out.size); have HBS := κ hB1; obtain ⟨c3, hrun1, hat3, hwc3⟩ := hown1.lookup_int lawS undM undI (zeroI _) HK.out; obtain rfl := HCC.out c3 hat3; clear hat3 hwc3) | (at_mapUpdate; refine wpList_mapUpdate_own _ rfl _ _ _ 206 rfl 9 3 lawS undM _ w.heap.size k _ rfl hown1 (by unfold maxLen; omega) _ _ _ rfl rfl HK.out _ [] (plainElem_int undI (WalkArith.wf_i64 (by omega))) ?_; intro w2 hown2 hgrow2; have bm2 := blk_grown bm1 hgrow2 HNE.out; have hB2 := HBS.out.grown hgrow2 HBS.out.size (fun j hj => by cases hj; exact ρ _); obtain ⟨r0, r1, r2, f0, f1, f2, hz⟩ := bm2.f3; obtain ⟨c2, hrun, hat2, hwc2⟩ := hown2.lookup_int lawS undM undI (zeroI _) HK.out; obtain rfl := HCD.out c2 hat2; clear hat2 hwc2))
     go_ret
     exact ⟨ret_bool HE.out.symm, hB2⟩
   ·have HE := κ (HLE.out k (by omega) HP.out)
    go_wp2
    go_ret
    exact ⟨ret_bool HE.out.symm, HB.out⟩
theorem idx_has : ∀ (l : List UInt8) (c : UInt8), -1 ≤ Lib.indexByte l c ∧ hasb l c = decide (0 ≤ Lib.indexByte l c)
 | [], c => ⟨by rw [Lib.indexByte]; omega, rfl⟩
 | b :: l, c => by
  obtain ⟨h1, h2⟩ := idx_has l c
  unfold hasb at h2 ⊢
  rw [List.any_cons, h2, Lib.indexByte]
  by_cases hb : b = c
  ·subst hb
   rw [if_pos (by simp)]
   exact ⟨by omega, by simp⟩
  ·have e : (b.toNat == c.toNat) = false := by
    rw [beq_eq_false_iff_ne]; intro h; exact hb (UInt8.toNat_inj.1 h)
   rw [if_neg (by simpa using hb), e, Bool.false_or]
   by_cases hm : Lib.indexByte l c = -1
   ·rw [if_pos (by rw [hm]; rfl), hm]; exact ⟨by decide, rfl⟩
   ·rw [if_neg (by simpa using hm)]
    exact ⟨by omega, by rw [Bool.eq_iff_iff, decide_eq_true_iff, decide_eq_true_iff]; omega⟩
theorem idxB_c (K : ByteArray) (c : UInt8) (w : World) :
  Calls Tryz.prog 58 #[.string K, .int .u8 c.toNat] w fun e w' => e = .returned (.int .i64 (Lib.indexByte (us K) c)) ∧ w = w' := by
 refine (Tryz.strings_IndexByte K c.toNat w).mono ?_
 rintro e w' ⟨rfl, rfl⟩
 exact ⟨by simp [us], rfl⟩
theorem ret_sb {a b : ByteArray} {x y : Bool} (h : a = b) (h' : x = y) : Ending.returned (.tuple #[.string a, .bool x]) = .returned (.tuple #[.string b, .bool y]) := by rw [h, h']
def optB (o : Option (List UInt8)) : List UInt8 × Bool := match o with | some r => (r, true) | none => ([], false)
def optP (o : Option (List Prm)) : List Prm × Bool := match o with | some r => (r, true) | none => ([], false)
theorem mayW_cases (K : List UInt8) (c : UInt8) :
  (((c.toNat : Int) != 37) = false ∧ mayW K c = true) ∨ (((c.toNat : Int) != 37) = true ∧ (bits BinOp.and IntKind.i64 (cls c) 16 == 0) = false ∧ mayW K c = true) ∨
  (((c.toNat : Int) != 37) = true ∧ (bits BinOp.and IntKind.i64 (cls c) 16 == 0) = true ∧ ¬ Lib.indexByte K c < 0 ∧ mayW K c = true) ∨ (((c.toNat : Int) != 37) = true ∧ (bits BinOp.and IntKind.i64 (cls c) 16 == 0) = true ∧ Lib.indexByte K c < 0 ∧ mayW K c = false) := by
 obtain ⟨h1, h2⟩ := idx_has K c
 have e : mayW K c = (c.toNat == 37 || !(bits BinOp.and IntKind.i64 (cls c) 16 == 0) || hasb K c) := rfl
 rw [e, h2]
 by_cases h : c.toNat = 37
 ·exact .inl ⟨by simp; omega, by simp [h]⟩
 have hn : ((c.toNat : Int) != 37) = true := by simp; omega
 have hm : (c.toNat == 37) = false := by simpa using h
 rw [hm, hn]
 cases (bits BinOp.and IntKind.i64 (cls c) 16 == 0)
 ·exact .inr (.inl ⟨rfl, rfl, rfl⟩)
 ·by_cases hz : Lib.indexByte K c < 0
  ·exact .inr (.inr (.inr ⟨rfl, rfl, hz, by rw [decide_eq_false (by omega)]; rfl⟩))
  ·exact .inr (.inr (.inl ⟨rfl, rfl, hz, by rw [decide_eq_true (by omega)]; rfl⟩))
theorem written_bad (s : ByteArray) (K : List UInt8) (k : Nat) (h : k < s.size) (hb : mayW K s[k] = false) : optB (writtenS (us s) K) = ([], false) := by
 unfold writtenS
 rw [if_neg]
 ·rfl
 ·intro ha
  rw [List.all_eq_true] at ha
  have := ha s[k] (List.mem_of_getElem? (get_us s k h))
  rw [hb] at this; cases this
theorem written_more (s : ByteArray) (K : List UInt8) (k : Nat) (h : k < s.size) (hp : ((us s).take k).all (mayW K) = true) (hb : mayW K s[k] = true) : ((us s).take (k + 1)).all (mayW K) = true := by
 rw [take_us s k h, List.all_append, hp]; simp [hb]
theorem written_end (s : ByteArray) (K : List UInt8) (k : Nat) (h : s.size ≤ k) (hp : ((us s).take k).all (mayW K) = true) :
  ∃ b : Bool, optB (writtenS (us s) K) = ((unescape (us s)).1, b) ∧ ((unescape (us s)).2 == 0) = b := by
 rw [List.take_of_length_le (by rw [length_us]; exact h)] at hp
 unfold writtenS unescape
 rw [if_pos hp]
 cases unesc (us s) with
 | none => exact ⟨false, rfl, rfl⟩
 | some r => exact ⟨true, rfl, rfl⟩
set_option maxHeartbeats 1600000 in
theorem plain_c (s K : ByteArray) (hs : s.size ≤ 4294967280) (w : World) :
  Calls Tryz.prog 110 #[.string s, .string K] w fun e w' => e = .returned (.tuple #[.string (bs (optB (writtenS (us s) (us K))).1), .bool (optB (writtenS (us s) (us K))).2]) ∧ Below w.heap.size w w' := by
 have HU := κ (fun wx => unescape_c s (by omega) wx)
 have HWB := κ (fun k h hb => written_bad s (us K) k h hb)
 have HWM := κ (fun k h hp hb => written_more s (us K) k h hp hb)
 have HWE := κ (fun k h hp => written_end s (us K) k h hp)
 go_enter Tryz.func110, Tryz.ntmps110
 go_wp2
 go_loop [11] (fun i => ∃ k : Nat, k ≤ s.size ∧ i = .int .i64 k ∧ Hid (((us s).take k).all (mayW (us K)) = true)) (fun i => s.size - (intOf i).toNat)
 case atStart => exact ⟨0, Nat.zero_le _, rfl, κ rfl⟩
 case round =>
  obtain ⟨k, hk, rfl, HP⟩ := hrel
  by_cases hlt : k < s.size
  ·rcases mayW_cases (us K) s[k] with ⟨h1, hm⟩ | ⟨h1, h2, hm⟩ | ⟨h1, h2, h3, hm⟩ | ⟨h1, h2, h3, hm⟩
   iterate 3
    ·have HN := κ (HWM.out k hlt HP.out hm)
     clear hm
     go_wp2_with (first | (go_at_call 92; refine (class_c _ _).mono ?_; rintro e w' ⟨rfl, rfl⟩) | (go_at_call 58; refine (idxB_c K _ _).mono ?_; rintro e w' ⟨rfl, rfl⟩))
     go_round
     case rel => exact ⟨k + 1, by omega, by go_num, HN⟩
     case measure => simp [intOf]; omega
   ·have HN := κ (HWB.out k hlt hm)
    clear hm
    go_wp2_with (first | (go_at_call 92; refine (class_c _ _).mono ?_; rintro e w' ⟨rfl, rfl⟩) | (go_at_call 58; refine (idxB_c K _ _).mono ?_; rintro e w' ⟨rfl, rfl⟩))
    go_ret2
    exact ⟨by rw [HN.out]; rfl, Below.refl _ _⟩
  ·obtain ⟨b, hb1, hb2⟩ := HWE.out k (by omega) HP.out
   have HN := κ hb1
   obtain ⟨q, hq⟩ : ∃ q, q = unescape (us s) := ⟨_, rfl⟩
   rw [← hq] at HU hb2 HN
   clear hq hb1
   obtain ⟨t, e⟩ := q
   dsimp only at HU hb2 HN
   go_wp2_with (first | (go_at_call 159; refine (HU.out _).mono ?_; rintro e w1 ⟨rfl, hC1⟩))
   go_ret2
   exact ⟨ret_sb (by rw [HN.out]) (by rw [HN.out]), hC1⟩
theorem read_step (K : List UInt8) (Ps : List (List UInt8)) (L : List Prm) (k : Nat) (h : k < Ps.length) (n v : List UInt8) (a b : Bool) (ha : optB (writtenS (cutb 61 Ps[k]).1 K) = (n, a)) (hb : optB (writtenS (cutb 61 Ps[k]).2.1 K) = (v, b))
  (hp : readGo K Ps = (readGo K (Ps.drop k)).map (L ++ ·)) :
  (a = false ∧ optP (readGo K Ps) = ([], false)) ∨ (a = true ∧ b = false ∧ optP (readGo K Ps) = ([], false)) ∨ (a = true ∧ b = true ∧ readGo K Ps = (readGo K (Ps.drop (k + 1))).map ((L ++ [⟨n, v, (cutb 61 Ps[k]).2.2⟩]) ++ ·)) := by
 rw [hp, List.drop_eq_getElem_cons h, readGo]
 cases h1 : writtenS (cutb 61 Ps[k]).1 K with
 | none =>
  rw [h1] at ha
  injection ha with _ ha
  exact .inl ⟨ha.symm, rfl⟩
 | some x =>
  rw [h1] at ha
  injection ha with ha1 ha
  subst ha1
  cases h2 : writtenS (cutb 61 Ps[k]).2.1 K with
  | none =>
   rw [h2] at hb
   injection hb with _ hb
   exact .inr (.inl ⟨ha.symm, hb.symm, rfl⟩)
  | some y =>
   rw [h2] at hb
   injection hb with hb1 hb
   subst hb1
   refine .inr (.inr ⟨ha.symm, hb.symm, ?_⟩)
   dsimp only [Option.bind]
   cases readGo K (Ps.drop (k + 1)) with
   | none => rfl
   | some R => simp
theorem read_end (K : List UInt8) (Ps : List (List UInt8)) (L : List Prm) (k : Nat) (h : Ps.length ≤ k) (hp : readGo K Ps = (readGo K (Ps.drop k)).map (L ++ ·)) : optP (readGo K Ps) = (L, true) := by
 rw [hp, List.drop_eq_nil_iff.2 h]; simp [readGo, optP]
theorem optB_len (l K : List UInt8) : (optB (writtenS l K)).1.length ≤ l.length := by
 have key : ∀ (n : Nat) (l : List UInt8), l.length ≤ n → ∀ r, unesc l = some r → r.length ≤ l.length := by
  intro n
  induction n with
  | zero =>
   intro l hl r hr
   have : l = [] := List.eq_nil_of_length_eq_zero (by omega)
   subst this
   rw [unesc] at hr; injection hr with hr; rw [← hr]; exact ρ _
  | succ n ih =>
   intro l hl r hr
   cases l with
   | nil => rw [unesc] at hr; injection hr with hr; rw [← hr]; exact ρ _
   | cons c t =>
    rw [List.length_cons] at hl
    by_cases hc : c.toNat = 37
    ·cases t with
     | nil => rw [unesc.eq_def] at hr; dsimp only at hr; rw [if_pos hc] at hr; cases hr
     | cons a t =>
      cases t with
      | nil => rw [unesc.eq_def] at hr; dsimp only at hr; rw [if_pos hc] at hr; cases hr
      | cons b r' =>
       rw [unesc.eq_def] at hr; dsimp only at hr; rw [if_pos hc] at hr
       split at hr
       ·obtain ⟨y, hy, rfl⟩ := Option.map_eq_some_iff.1 hr
        have := ih r' (by simp at hl; omega) y hy
        simp; omega
       ·cases hr
    ·rw [unesc_ne c t hc] at hr
     obtain ⟨y, hy, rfl⟩ := Option.map_eq_some_iff.1 hr
     have := ih t (by omega) y hy
     simp; omega
 unfold writtenS
 split
 ·cases h : unesc l with
  | none => exact Nat.zero_le _
  | some r => exact key _ l (ρ _) r h
 ·exact Nat.zero_le _
def ReadPost (r : List Prm × Bool) (w : World) (e : Ending) (w' : World) : Prop := ∃ u, e = .returned (.tuple #[u, .bool r.2]) ∧ RPrms w' u r.1 ∧ Fresh w.heap.size u ∧ Below w.heap.size w w'
set_option maxHeartbeats 3200000 in
theorem read_c (v0 : Value) (Ps : List (List UInt8)) (K : ByteArray) (w : World) (hm : Ml w) (hv : RStrs w v0 Ps) (hbd : ∀ x ∈ Ps, x.length ≤ 4294967280) (hn : Ps.length ≤ 4294967290) :
  Calls Tryz.prog 113 #[v0, .string K] w (ReadPost (optP (readGo (us K) Ps)) w) := by
 have HM := κ hm
 rcases hv.form with ⟨ao, cap, rfl, hm1, c1⟩
 have C1 := κ c1
 have HBD := κ hbd
 clear c1 hv hbd hm
 unfold maxLen at hm1
 have HRS := κ (fun L k h n v a b ha hb hp => read_step (us K) Ps L k h n v a b ha hb hp)
 have HRE := κ (fun L k h hp => read_end (us K) Ps L k h hp)
 obtain ⟨R, hR⟩ : ∃ R, R = optP (readGo (us K) Ps) := ⟨_, rfl⟩
 rw [← hR] at HRS HRE ⊢
 go_enter Tryz.func113, Tryz.ntmps113
 go_wp2
 go_loopw [6, 18] (fun v i wr => ∃ (k : Nat) (L : List Prm), k ≤ Ps.length ∧ Hid (L.length = k) ∧ i = .int .i64 k ∧ Prms wr w.heap.size v L ∧ Below w.heap.size w wr ∧ Hid (readGo (us K) Ps = (readGo (us K) (Ps.drop k)).map (L ++ ·))) (fun _ i _ => Ps.length - (intOf i).toNat)
 case atStart => exact ⟨0, [], Nat.zero_le _, κ rfl, rfl, Prms.nil _ _, Below.refl _ _, κ (by simp)⟩
 case round =>
  obtain ⟨k, L, hk, HLk, rfl, hown, hB, HP⟩ := hrel
  by_cases hlt : k < Ps.length
  ·obtain ⟨b, off, rfl, hb1, hc1⟩ := C1.out (by omega)
   have x0 : wr.cell? ⟨b, off + k, none⟩ = some (.string (bs Ps[k])) := (hB.cell (p := ⟨b, off + k, none⟩) hb1).trans (hc1 k hlt)
   have hxl := HBD.out _ (List.getElem_mem hlt)
   have hcl := cutb_le 61 Ps[k]
   have HMr := κ (HM.out.below hB)
   have HCT := κ (fun wx hx => cut_c (bs Ps[k]) (by rw [size_bs]; omega) 61 wx hx)
   rw [us_bs] at HCT
   have HRk := κ (fun n v a b ha hb => HRS.out L k hlt n v a b ha hb HP.out)
   obtain ⟨X, hX⟩ : ∃ X, X = bs Ps[k] := ⟨_, rfl⟩
   rw [← hX] at x0 HCT
   obtain ⟨q, hq⟩ : ∃ q, q = cutb 61 Ps[k] := ⟨_, rfl⟩
   rw [← hq] at HCT hcl HRk
   clear hX hq hc1 HP
   obtain ⟨n0, v0, has⟩ := q
   dsimp only at HCT hcl HRk
   have HP1 := κ (fun wx => plain_c (bs n0) K (by rw [size_bs]; omega) wx)
   have HP2 := κ (fun wx => plain_c (bs v0) K (by rw [size_bs]; omega) wx)
   rw [us_bs] at HP1 HP2
   have HRk' := κ (HRk.out (optB (writtenS n0 (us K))).1 (optB (writtenS v0 (us K))).1 (optB (writtenS n0 (us K))).2 (optB (writtenS v0 (us K))).2 (by rfl) (by rfl))
   have hl1 := optB_len n0 (us K)
   have hl2 := optB_len v0 (us K)
   obtain ⟨a, ha⟩ : ∃ a, a = optB (writtenS n0 (us K)) := ⟨_, rfl⟩
   obtain ⟨c, hc⟩ : ∃ a, a = optB (writtenS v0 (us K)) := ⟨_, rfl⟩
   rw [← ha] at HP1 HRk' hl1
   rw [← hc] at HP2 HRk' hl2
   clear ha hc HRk
   obtain ⟨n, a⟩ := a
   obtain ⟨v, c⟩ := c
   dsimp only at HP1 HP2 HRk' hl1 hl2
   have hcs := HRk'.out
   have HO := κ hown
   have HB := κ hB
   have k0 : (0 : Int) ≤ (k : Int) := by omega
   have k1 : (k : Int) < (Ps.length : Int) := by omega
   obtain ⟨N, hN⟩ : ∃ N, N = bs n := ⟨_, rfl⟩
   obtain ⟨V, hV⟩ : ∃ V, V = bs v := ⟨_, rfl⟩
   rw [← hN] at HP1
   rw [← hV] at HP2
   have HNu := κ (show us N = n by rw [hN, us_bs])
   have HVu := κ (show us V = v by rw [hV, us_bs])
   clear hN hV hown hB hb1 HRk'
   rcases hcs with ⟨rfl, hR0⟩ | ⟨rfl, rfl, hR0⟩ | ⟨rfl, rfl, hst⟩
   iterate 2
    ·have HE := κ hR0
     clear hR0
     go_wp2_with (first | (go_at_call 47; refine (HCT.out _ (HMr.out)).mono ?_; rintro e w1 ⟨rfl, hD⟩; have hb1 := HB.out.trans (hD.below (B := w.heap.size)); have ho1 := HO.out.below (hD.below (B := wr.heap.size)) (ρ _)) | (go_at_call 110; (first | ((with_reducible refine (HP1.out _).mono ?_); rintro e w2 ⟨rfl, hC2⟩) | ((with_reducible refine (HP2.out _).mono ?_); rintro e w2 ⟨rfl, hC2⟩)); have ho1 := ho1.below hC2 (ρ _); have hb1 := hb1.trans (hC2.mono hb1.size)))
     go_ret2
     exact ⟨_, by rw [HE.out]; rfl, .inl ⟨⟨_, _, rfl⟩, by rw [HE.out]⟩, Fresh.nil _ _ _, hb1⟩
   ·have HE := κ hst
    clear hst
    go_wp2_with (first | (go_at_call 47; refine (HCT.out _ (HMr.out)).mono ?_; rintro e w1 ⟨rfl, hD⟩; have hb1 := HB.out.trans (hD.below (B := w.heap.size)); have ho1 := HO.out.below (hD.below (B := wr.heap.size)) (ρ _)) | (go_at_call 110; (first | ((with_reducible refine (HP1.out _).mono ?_); rintro e w2 ⟨rfl, hC2⟩) | ((with_reducible refine (HP2.out _).mono ?_); rintro e w2 ⟨rfl, hC2⟩)); have ho1 := ho1.below hC2 (ρ _); have hb1 := hb1.trans (hC2.mono hb1.size)) | (at_builtin; refine wpList_appP1 ⟨n, v, has⟩ HNu.out HVu.out rfl rfl rfl Tryz.underlying22 infoP rfl rfl ho1 hb1 (ρ _) ?_ ?_; (focus (have := HLk.out; omega)); intro v' w' hown2 hb2))
    go_roundw
    case rel => exact ⟨k + 1, _, by omega, κ (by rw [List.length_append, HLk.out]; rfl), by go_num, hown2, hb2, HE⟩
    case measure => simp [intOf]; omega
  ·have HE := κ (HRE.out L k (by omega) HP.out)
   clear HP
   go_wp2
   go_ret2
   exact ⟨_, by rw [HE.out]; rfl, by rw [HE.out]; exact hown.read, hown.fresh, hB⟩
theorem scheme_c (s : ByteArray) (w : World) :
  Calls Tryz.prog 109 #[.string s] w fun e w' => e = .returned (.bool (schemeS (us s))) ∧ w = w' := by
 by_cases h1 : us s = nSip
 ·obtain rfl : s = ⟨#[115, 105, 112]⟩ := us_inj h1
  clear h1
  go_enter Tryz.func109, Tryz.ntmps109
  go_wp2
  go_ret
  exact ⟨ret_bool (by decide +kernel), rfl⟩
 by_cases h2 : us s = nSips
 ·obtain rfl : s = ⟨#[115, 105, 112, 115]⟩ := us_inj h2
  clear h1 h2
  go_enter Tryz.func109, Tryz.ntmps109
  go_wp2
  go_ret
  exact ⟨ret_bool (by decide +kernel), rfl⟩
 by_cases h3 : us s = nPres
 ·obtain rfl : s = ⟨#[112, 114, 101, 115]⟩ := us_inj h3
  clear h1 h2 h3
  go_enter Tryz.func109, Tryz.ntmps109
  go_wp2
  go_ret
  exact ⟨ret_bool (by decide +kernel), rfl⟩
 have HE := κ (show schemeS (us s) = false by unfold schemeS; simp [h1, h2, h3])
 have n1 : ¬ s.toList = [115, 105, 112] := by rw [toList_us]; exact h1
 have n2 : ¬ s.toList = [115, 105, 112, 115] := by rw [toList_us]; exact h2
 have n3 : ¬ s.toList = [112, 114, 101, 115] := by rw [toList_us]; exact h3
 clear h1 h2 h3
 go_enter Tryz.func109, Tryz.ntmps109
 go_wp2
 go_ret
 exact ⟨ret_bool (by rw [HE.out]; simp [n1, n2, n3]), rfl⟩
theorem checkU_cases (S U H : ByteArray) (n : Int) (F G : List Prm) :
  (schemeS (us S) = false ∧ checkU ⟨us S, us U, us H, n, F, G⟩ = 30) ∨ (schemeS (us S) = true ∧ 64 < U.size ∧ checkU ⟨us S, us U, us H, n, F, G⟩ = 31) ∨
  (schemeS (us S) = true ∧ ¬ 64 < U.size ∧ hostS (us H) = false ∧ checkU ⟨us S, us U, us H, n, F, G⟩ = 32) ∨
  (schemeS (us S) = true ∧ ¬ 64 < U.size ∧ hostS (us H) = true ∧ (n < 0 ∨ 65535 < n) ∧ checkU ⟨us S, us U, us H, n, F, G⟩ = 33) ∨
  (schemeS (us S) = true ∧ ¬ 64 < U.size ∧ hostS (us H) = true ∧ ¬ (n < 0 ∨ 65535 < n) ∧ listU F = false ∧ checkU ⟨us S, us U, us H, n, F, G⟩ = 34) ∨
  (schemeS (us S) = true ∧ ¬ 64 < U.size ∧ hostS (us H) = true ∧ ¬ (n < 0 ∨ 65535 < n) ∧ listU F = true ∧ listU G = false ∧ checkU ⟨us S, us U, us H, n, F, G⟩ = 34) ∨
  (schemeS (us S) = true ∧ ¬ 64 < U.size ∧ hostS (us H) = true ∧ ¬ (n < 0 ∨ 65535 < n) ∧ listU F = true ∧ listU G = true ∧ (G.all fun h => h.has) = false ∧ checkU ⟨us S, us U, us H, n, F, G⟩ = 34) ∨
  (schemeS (us S) = true ∧ ¬ 64 < U.size ∧ hostS (us H) = true ∧ ¬ (n < 0 ∨ 65535 < n) ∧ listU F = true ∧ listU G = true ∧ (G.all fun h => h.has) = true ∧ checkU ⟨us S, us U, us H, n, F, G⟩ = 0) := by
 unfold checkU
 dsimp only
 rw [length_us]
 cases schemeS (us S)
 ·exact .inl ⟨rfl, rfl⟩
 refine .inr ?_
 rw [if_neg (by decide)]
 by_cases h1 : 64 < U.size
 ·exact .inl ⟨rfl, h1, if_pos h1⟩
 refine .inr ?_
 rw [if_neg h1]
 cases hostS (us H)
 ·exact .inl ⟨rfl, h1, rfl, rfl⟩
 refine .inr ?_
 rw [if_neg (by decide)]
 by_cases h2 : n < 0 ∨ 65535 < n
 ·exact .inl ⟨rfl, h1, rfl, h2, if_pos h2⟩
 refine .inr ?_
 rw [if_neg h2]
 cases listU F
 ·exact .inl ⟨rfl, h1, rfl, h2, rfl, rfl⟩
 refine .inr ?_
 rw [if_neg (by decide)]
 cases listU G
 ·exact .inl ⟨rfl, h1, rfl, h2, rfl, rfl, rfl⟩
 refine .inr ?_
 rw [if_neg (by decide)]
 cases (G.all fun h => h.has)
 ·exact .inl ⟨rfl, h1, rfl, h2, rfl, rfl, rfl, rfl⟩
 ·exact .inr ⟨rfl, h1, rfl, h2, rfl, rfl, rfl, rfl⟩
theorem blk_f6 {w : World} {g : Nat} {t : TypeId} {a b c d e f : Value} (h : Blk w g t #[a, b, c, d, e, f]) :
  w.cell? ⟨g, 0, none⟩ = some a ∧ w.cell? ⟨g, 1, none⟩ = some b ∧ w.cell? ⟨g, 2, none⟩ = some c ∧ w.cell? ⟨g, 3, none⟩ = some d ∧ w.cell? ⟨g, 4, none⟩ = some e ∧ w.cell? ⟨g, 5, none⟩ = some f :=
 ⟨boxedCell h 0, boxedCell h 1, boxedCell h 2, boxedCell h 3, boxedCell h 4, boxedCell h 5⟩
set_option maxHeartbeats 6400000 in
theorem checkU_c (S U H : ByteArray) (n : Int) (u1 u2 : Value) (F G : List Prm) (hS : S.size ≤ 4294967280) (hH : H.size ≤ 4294967280) (w : World) (hm : Ml w) (h1 : RPrms w u1 F) (h2 : RPrms w u2 G) (hb1 : ∀ p ∈ F, p.name.length ≤ 4294967280 ∧ p.value.length ≤ 4294967280) (hb2 : ∀ p ∈ G, p.name.length ≤ 4294967280 ∧ p.value.length ≤ 4294967280) :
  Calls Tryz.prog 81 #[.agg #[.string S, .string U, .string H, .int .i64 n, u1, u2]] w fun e w' => e = .returned (.int .i64 (checkU ⟨us S, us U, us H, n, F, G⟩)) ∧ Below w.heap.size w w' := by
 have HS := κ (fun wx => scheme_c S wx)
 have HH := κ (fun wx hx => host_c H hH wx hx)
 have HU1 := κ h1
 have HU2 := κ h2
 have HM := κ hm
 obtain ⟨ao, ac, rfl, hm1, c1⟩ := h1.form
 obtain ⟨bo, bc, rfl, hm2, c2⟩ := h2.form
 have C2 := κ c2
 have HL1 := κ (fun wx hx => listF_c (.slice ao F.length ac) F wx hx hb1)
 have HL2 := κ (fun wx hx => listF_c (.slice bo G.length bc) G wx hx hb2)
 unfold maxLen at hm2
 have hcs := checkU_cases S U H n F G
 obtain ⟨C, hC⟩ : ∃ C, C = checkU ⟨us S, us U, us H, n, F, G⟩ := ⟨_, rfl⟩
 rw [← hC] at hcs ⊢
 clear hC c1 c2 h1 h2 hm1 hm hb1 hb2
 have hB0 : Below w.heap.size w (w.alloc (.cells #[.string S, .string U, .string H, .int .i64 n, .slice ao F.length ac, .slice bo G.length bc] 24)) := (Below.refl _ _).alloc (ρ _) _
 have bm0 := Blk.new w 24 #[.string S, .string U, .string H, .int .i64 n, .slice ao F.length ac, .slice bo G.length bc]
 obtain ⟨w0, hw0⟩ : ∃ w0, w0 = w.alloc (.cells #[.string S, .string U, .string H, .int .i64 n, .slice ao F.length ac, .slice bo G.length bc] 24) := ⟨_, rfl⟩
 rw [← hw0] at hB0 bm0
 have HX := κ (fun (wx : World) (h : Below w0.heap.size w0 wx) => (show Blk wx w.heap.size 24 #[.string S, .string U, .string H, .int .i64 n, .slice ao F.length ac, .slice bo G.length bc] ∧ Below w.heap.size w wx ∧ Ml wx ∧ RPrms wx (.slice ao F.length ac) F ∧ RPrms wx (.slice bo G.length bc) G from by
  have hx := hB0.trans (h.mono hB0.size)
  exact ⟨bm0.call h, hx, HM.out.below hx, HU1.out.below hx (ρ _), HU2.out.below hx (ρ _)⟩))
 have HW0 := κ hw0
 have hZ : Below w0.heap.size w0 w0 := Below.refl _ _
 obtain ⟨bm, hBB, hMM, hU1, hU2⟩ := HX.out _ hZ
 obtain ⟨p0, p1, p2, p3, p4, p5⟩ := blk_f6 bm
 clear hw0 bm0 hB0
 rcases hcs with ⟨s1, hC⟩ | ⟨s1, s2, hC⟩ | ⟨s1, s2, s3, hC⟩ | ⟨s1, s2, s3, s4, hC⟩ | ⟨s1, s2, s3, s4, s5, hC⟩ | ⟨s1, s2, s3, s4, s5, s6, hC⟩ | ⟨s1, s2, s3, s4, s5, s6, s7, hC⟩ | ⟨s1, s2, s3, s4, s5, s6, s7, hC⟩
 ·rw [s1] at HS
  clear s1
  have HC := κ hC
  clear hC
  go_enter Tryz.func81, Tryz.ntmps81
  go_wp2_with (first | (go_at_call 109; (try rw [← HW0.out]); refine (HS.out _).mono ?_; rintro e wx ⟨rfl, rfl⟩) | (go_at_call 141; refine (HH.out _ hMM).mono ?_; rintro e w1 ⟨rfl, hC1⟩; have hZ := hZ.trans (hC1.mono hZ.size); obtain ⟨bm, hBB, hMM, hU1, hU2⟩ := HX.out _ hZ; obtain ⟨p0, p1, p2, p3, p4, p5⟩ := blk_f6 bm) | (go_at_call 142; (first | ((with_reducible refine (HL1.out _ hU1).mono ?_); rintro e w2 ⟨rfl, hC2⟩) | ((with_reducible refine (HL2.out _ hU2).mono ?_); rintro e w2 ⟨rfl, hC2⟩)); have hZ := hZ.trans (hC2.mono hZ.size); obtain ⟨bm, hBB, hMM, hU1, hU2⟩ := HX.out _ hZ; obtain ⟨p0, p1, p2, p3, p4, p5⟩ := blk_f6 bm))
  go_ret
  exact ⟨ret_int HC.out.symm, hBB⟩
 ·rw [s1] at HS
  clear s1
  have HC := κ hC
  clear hC
  go_enter Tryz.func81, Tryz.ntmps81
  go_wp2_with (first | (go_at_call 109; (try rw [← HW0.out]); refine (HS.out _).mono ?_; rintro e wx ⟨rfl, rfl⟩) | (go_at_call 141; refine (HH.out _ hMM).mono ?_; rintro e w1 ⟨rfl, hC1⟩; have hZ := hZ.trans (hC1.mono hZ.size); obtain ⟨bm, hBB, hMM, hU1, hU2⟩ := HX.out _ hZ; obtain ⟨p0, p1, p2, p3, p4, p5⟩ := blk_f6 bm) | (go_at_call 142; (first | ((with_reducible refine (HL1.out _ hU1).mono ?_); rintro e w2 ⟨rfl, hC2⟩) | ((with_reducible refine (HL2.out _ hU2).mono ?_); rintro e w2 ⟨rfl, hC2⟩)); have hZ := hZ.trans (hC2.mono hZ.size); obtain ⟨bm, hBB, hMM, hU1, hU2⟩ := HX.out _ hZ; obtain ⟨p0, p1, p2, p3, p4, p5⟩ := blk_f6 bm))
  go_ret
  exact ⟨ret_int HC.out.symm, hBB⟩
 ·rw [s1] at HS
  rw [s3] at HH
  clear s1 s3
  have HC := κ hC
  clear hC
  go_enter Tryz.func81, Tryz.ntmps81
  go_wp2_with (first | (go_at_call 109; (try rw [← HW0.out]); refine (HS.out _).mono ?_; rintro e wx ⟨rfl, rfl⟩) | (go_at_call 141; refine (HH.out _ hMM).mono ?_; rintro e w1 ⟨rfl, hC1⟩; have hZ := hZ.trans (hC1.mono hZ.size); obtain ⟨bm, hBB, hMM, hU1, hU2⟩ := HX.out _ hZ; obtain ⟨p0, p1, p2, p3, p4, p5⟩ := blk_f6 bm) | (go_at_call 142; (first | ((with_reducible refine (HL1.out _ hU1).mono ?_); rintro e w2 ⟨rfl, hC2⟩) | ((with_reducible refine (HL2.out _ hU2).mono ?_); rintro e w2 ⟨rfl, hC2⟩)); have hZ := hZ.trans (hC2.mono hZ.size); obtain ⟨bm, hBB, hMM, hU1, hU2⟩ := HX.out _ hZ; obtain ⟨p0, p1, p2, p3, p4, p5⟩ := blk_f6 bm))
  go_ret
  exact ⟨ret_int HC.out.symm, hBB⟩
 ·rw [s1] at HS
  rw [s3] at HH
  have HC := κ hC
  clear s1 s3 hC
  by_cases n0 : n < 0
  rotate_left
  have n1 : 65535 < n := by omega
  rotate_left
  all_goals
   clear s4
   go_enter Tryz.func81, Tryz.ntmps81
   go_wp2_with (first | (go_at_call 109; (try rw [← HW0.out]); refine (HS.out _).mono ?_; rintro e wx ⟨rfl, rfl⟩) | (go_at_call 141; refine (HH.out _ hMM).mono ?_; rintro e w1 ⟨rfl, hC1⟩; have hZ := hZ.trans (hC1.mono hZ.size); obtain ⟨bm, hBB, hMM, hU1, hU2⟩ := HX.out _ hZ; obtain ⟨p0, p1, p2, p3, p4, p5⟩ := blk_f6 bm) | (go_at_call 142; (first | ((with_reducible refine (HL1.out _ hU1).mono ?_); rintro e w2 ⟨rfl, hC2⟩) | ((with_reducible refine (HL2.out _ hU2).mono ?_); rintro e w2 ⟨rfl, hC2⟩)); have hZ := hZ.trans (hC2.mono hZ.size); obtain ⟨bm, hBB, hMM, hU1, hU2⟩ := HX.out _ hZ; obtain ⟨p0, p1, p2, p3, p4, p5⟩ := blk_f6 bm))
   go_ret
   exact ⟨ret_int HC.out.symm, hBB⟩
 ·rw [s1] at HS
  rw [s3] at HH
  rw [s5] at HL1
  clear s1 s3 s5
  have n0 : ¬ n < 0 := by omega
  have n1 : ¬ 65535 < n := by omega
  clear s4
  have HC := κ hC
  clear hC
  go_enter Tryz.func81, Tryz.ntmps81
  go_wp2_with (first | (go_at_call 109; (try rw [← HW0.out]); refine (HS.out _).mono ?_; rintro e wx ⟨rfl, rfl⟩) | (go_at_call 141; refine (HH.out _ hMM).mono ?_; rintro e w1 ⟨rfl, hC1⟩; have hZ := hZ.trans (hC1.mono hZ.size); obtain ⟨bm, hBB, hMM, hU1, hU2⟩ := HX.out _ hZ; obtain ⟨p0, p1, p2, p3, p4, p5⟩ := blk_f6 bm) | (go_at_call 142; (first | ((with_reducible refine (HL1.out _ hU1).mono ?_); rintro e w2 ⟨rfl, hC2⟩) | ((with_reducible refine (HL2.out _ hU2).mono ?_); rintro e w2 ⟨rfl, hC2⟩)); have hZ := hZ.trans (hC2.mono hZ.size); obtain ⟨bm, hBB, hMM, hU1, hU2⟩ := HX.out _ hZ; obtain ⟨p0, p1, p2, p3, p4, p5⟩ := blk_f6 bm))
  go_ret
  exact ⟨ret_int HC.out.symm, hBB⟩
 ·rw [s1] at HS
  rw [s3] at HH
  rw [s5] at HL1
  rw [s6] at HL2
  clear s1 s3 s5 s6
  have n0 : ¬ n < 0 := by omega
  have n1 : ¬ 65535 < n := by omega
  clear s4
  have HC := κ hC
  clear hC
  go_enter Tryz.func81, Tryz.ntmps81
  go_wp2_with (first | (go_at_call 109; (try rw [← HW0.out]); refine (HS.out _).mono ?_; rintro e wx ⟨rfl, rfl⟩) | (go_at_call 141; refine (HH.out _ hMM).mono ?_; rintro e w1 ⟨rfl, hC1⟩; have hZ := hZ.trans (hC1.mono hZ.size); obtain ⟨bm, hBB, hMM, hU1, hU2⟩ := HX.out _ hZ; obtain ⟨p0, p1, p2, p3, p4, p5⟩ := blk_f6 bm) | (go_at_call 142; (first | ((with_reducible refine (HL1.out _ hU1).mono ?_); rintro e w2 ⟨rfl, hC2⟩) | ((with_reducible refine (HL2.out _ hU2).mono ?_); rintro e w2 ⟨rfl, hC2⟩)); have hZ := hZ.trans (hC2.mono hZ.size); obtain ⟨bm, hBB, hMM, hU1, hU2⟩ := HX.out _ hZ; obtain ⟨p0, p1, p2, p3, p4, p5⟩ := blk_f6 bm))
  go_ret
  exact ⟨ret_int HC.out.symm, hBB⟩
 all_goals
  rw [s1] at HS
  rw [s3] at HH
  rw [s5] at HL1
  rw [s6] at HL2
  clear s1 s3 s5 s6
  have n0 : ¬ n < 0 := by omega
  have n1 : ¬ 65535 < n := by omega
  clear s4
  have HC := κ hC
  clear hC
  have HG := κ s7
  clear s7
  go_enter Tryz.func81, Tryz.ntmps81
  go_wp2_with (first | (go_at_call 109; (try rw [← HW0.out]); refine (HS.out _).mono ?_; rintro e wx ⟨rfl, rfl⟩) | (go_at_call 141; refine (HH.out _ hMM).mono ?_; rintro e w1 ⟨rfl, hC1⟩; have hZ := hZ.trans (hC1.mono hZ.size); obtain ⟨bm, hBB, hMM, hU1, hU2⟩ := HX.out _ hZ; obtain ⟨p0, p1, p2, p3, p4, p5⟩ := blk_f6 bm) | (go_at_call 142; (first | ((with_reducible refine (HL1.out _ hU1).mono ?_); rintro e w2 ⟨rfl, hC2⟩) | ((with_reducible refine (HL2.out _ hU2).mono ?_); rintro e w2 ⟨rfl, hC2⟩)); have hZ := hZ.trans (hC2.mono hZ.size); obtain ⟨bm, hBB, hMM, hU1, hU2⟩ := HX.out _ hZ; obtain ⟨p0, p1, p2, p3, p4, p5⟩ := blk_f6 bm))
  go_loopw [42] (fun i wr => ∃ k : Nat, k ≤ G.length ∧ i = .int .i64 k ∧ Below w0.heap.size w0 wr ∧ Hid ((G.take k).all (fun h => h.has) = true)) (fun i _ => G.length - (intOf i).toNat)
  case atStart => exact ⟨0, Nat.zero_le _, rfl, hZ, κ rfl⟩
  case round =>
   obtain ⟨k, hk, rfl, hZ, HP⟩ := hrel
   obtain ⟨bm, hBB, hMM, hU1, hU2⟩ := HX.out _ hZ
   obtain ⟨p0, p1, p2, p3, p4, p5⟩ := blk_f6 bm
   by_cases hlt : k < G.length
   ·obtain ⟨b, off, rfl, hb1, hc1⟩ := C2.out (by omega)
    have x0 : wr.cell? ⟨b, off + k * 3, none⟩ = some (sv G[k].name) := by rw [hBB.cell (p := ⟨b, off + k * 3, none⟩) hb1]; exact (hc1 k hlt).1
    have x1 : wr.cell? ⟨b, off + k * 3 + 1, none⟩ = some (sv G[k].value) := by rw [hBB.cell (p := ⟨b, off + k * 3 + 1, none⟩) hb1]; exact (hc1 k hlt).2.1
    have x2 : wr.cell? ⟨b, off + k * 3 + 2, none⟩ = some (.bool G[k].has) := by rw [hBB.cell (p := ⟨b, off + k * 3 + 2, none⟩) hb1]; exact (hc1 k hlt).2.2
    have k0 : (0 : Int) ≤ (k : Int) := by omega
    have k1 : (k : Int) < (G.length : Int) := by omega
    have HN := κ (fun (h : G[k].has = true) => (show (G.take (k + 1)).all (fun h => h.has) = true by rw [List.take_succ_eq_append_getElem hlt, List.all_append, HP.out]; simp [h]))
    have HQ := κ (fun (h : G[k].has = false) => (show (G.all fun h => h.has) = false from by
     rw [← Bool.not_eq_true, List.all_eq_true]; intro ha; have := ha _ (List.getElem_mem hlt); rw [h] at this; cases this))
    unfold sv at x0 x1
    obtain ⟨N, hN⟩ : ∃ N, N = bs G[k].name := ⟨_, rfl⟩
    obtain ⟨V, hV⟩ : ∃ V, V = bs G[k].value := ⟨_, rfl⟩
    rw [← hN] at x0
    rw [← hV] at x1
    obtain ⟨h, hh⟩ : ∃ h, h = G[k].has := ⟨_, rfl⟩
    rw [← hh] at x2 HN HQ
    clear hc1 hb1 hN hV hh HP
    cases h
    ·have hq := HQ.out rfl
     rw [HG.out] at hq
     first
      | (exact absurd hq (by decide))
      | (
        clear hq
        go_wp2
        go_ret
        exact ⟨ret_int HC.out.symm, by first | exact hBB | exact hBB.alloc (by have := hBB.size; omega) _⟩)
    ·have HN' := κ (HN.out rfl)
     go_wp2
     go_roundw
     case rel => exact ⟨k + 1, by omega, by go_num, by first | exact hZ | exact hZ.alloc hZ.size _, HN'⟩
     case measure => simp [intOf]; omega
   ·have hq := HP.out
    rw [List.take_of_length_le (by omega), HG.out] at hq
    first
     | (exact absurd hq (by decide))
     | (
       clear hq
       go_wp2
       go_ret
       exact ⟨ret_int HC.out.symm, hBB⟩)
theorem bld_used (b : Nat) (w : World) (h0 : w.cell? ⟨b, 0, none⟩ = some (.pointer (some ⟨b, 0, none⟩))) :
  Calls Tryz.prog 143 #[.pointer (some ⟨b, 0, none⟩)] w fun e w' => e = .returned (.tuple #[]) ∧ w' = w := by
 obtain ⟨j, hj, _⟩ := Option.map_eq_some_iff.1 (show (Tryz.prog.info? 142).map (·.size) = some 2 by kernel_rfl)
 go_enter Tryz.func143, Tryz.ntmps143
 go_wp2
 rw [Lib.run_neq_ptr_same w _ Tryz.underlying139 hj]
 go_wp2
 go_end0
 exact ⟨rfl, rfl⟩
set_option maxHeartbeats 1000000 in
theorem bld_fresh (b : Nat) (w : World) (h0 : w.cell? ⟨b, 0, none⟩ = some (.pointer none)) (hsh : w.shape? b = some (142, 2)) (hfz : w.frozen? ⟨b, 0, none⟩ = false) :
  Calls Tryz.prog 143 #[.pointer (some ⟨b, 0, none⟩)] w fun e w' => e = .returned (.tuple #[]) ∧ w' = w.setCell ⟨b, 0, none⟩ (.pointer (some ⟨b, 0, none⟩)) := by
 obtain ⟨j, hj, hjs⟩ := Option.map_eq_some_iff.1 (show (Tryz.prog.info? 142).map (·.size) = some 2 by kernel_rfl)
 go_enter Tryz.func143, Tryz.ntmps143
 go_wp2
 rw [Lib.run_to_unsafe w ⟨b, 0, none⟩ Tryz.underlying139 Tryz.underlying207 hj (by rw [hjs]; decide) hsh (Nat.zero_lt_succ 1)]
 simp only [Result.andThen]
 rw [Oper.upon_value]
 go_wp2
 rw [run_callFunc_extern Tryz.func180 (by kernel_rfl) (by kernel_rfl) (by kernel_rfl) (e := Extern.AbiNoEscape.same) (by kernel_rfl)]
 rw [Lib.run_noEscape]
 simp only [Result.andThen]
 rw [Oper.upon_value]
 go_wp2
 rw [Lib.run_from_unsafe w ⟨b, 0, none⟩ Tryz.underlying207 Tryz.underlying139 hj hsh (by kernel_rfl)]
 simp only [Result.andThen]
 rw [Oper.upon_value]
 go_wp2
 go_end0
 exact ⟨rfl, rfl⟩
theorem bld_check (B b : Nat) (bs : List Value) (w : World) (h : Lib.IsBuilder 142 5 B b bs w) :
  Calls Tryz.prog 143 #[.pointer (some ⟨b, 0, none⟩)] w fun e w' => e = .returned (.tuple #[]) ∧ (Lib.BuilderAt 142 5 B b (.pointer (some ⟨b, 0, none⟩)) bs w' ∧ Below B w w') := by
 rcases h with h | h
 ·refine (bld_fresh b w h.cell0 h.shape h.frozen0).mono ?_
  rintro e w' ⟨rfl, rfl⟩
  exact ⟨rfl, h.used _, (Below.refl B w).setCell (p := ⟨b, 0, none⟩) h.1 _⟩
 ·refine (bld_used b w h.cell0).mono ?_
  rintro e w' ⟨rfl, rfl⟩
  exact ⟨rfl, h, Below.refl B _⟩
set_option maxHeartbeats 2000000 in
theorem bld_write' (B b : Nat) (bs : List Value) (s : ByteArray) (w : World) (h : Lib.IsBuilder 142 5 B b bs w) (hlen : bs.length + s.size ≤ 140737488355328) (hBw : B ≤ w.heap.size) :
  Calls Tryz.prog 84 #[.pointer (some ⟨b, 0, none⟩), .string s] w fun e w' => e = .returned (.tuple #[.int .i64 s.size, .nilIface]) ∧ (Lib.BuilderAt 142 5 B b (.pointer (some ⟨b, 0, none⟩)) (bs ++ Lib.strCells s) w' ∧ Below B w w') := by
 obtain ⟨i0, hi, hz0, hz1, hz2⟩ := info_parts (show (Tryz.prog.info? 5).map (fun i => (i.zero, i.size, i.bytes)) = some (some (.int .u8 0), 1, 1) by kernel_rfl)
 go_enter Tryz.func84, Tryz.ntmps84
 go_wp2_with (go_at_call 143; refine (bld_check B b bs _ h).mono ?_)
 rintro e w1 ⟨rfl, h1, hb1⟩
 obtain ⟨hB, v, hbk, hown, hne⟩ := h1
 have c0 : w1.cell? ⟨b, 0, none⟩ = some (.pointer (some ⟨b, 0, none⟩)) := by rw [Lib.cell_of_heap hbk]; rfl
 have c1 : w1.cell? ⟨b, 1, none⟩ = some v := by rw [Lib.cell_of_heap hbk]; rfl
 go_wp2_with (at_builtin; refine Lib.wpList_append_own_string _ rfl _ _ 140 9 rfl B 5 i0 Tryz.underlying140 Tryz.underlying9 hi hz0 hz1 hz2 _ _ _ rfl hown s rfl ?c3 ?c4 ?c5 ?_)
 case c3 => unfold maxLen; omega
 case c4 => omega
 case c5 => have := hb1.size; omega
 intro v' w2 hown' hgrow _
 have hlt : b < w1.heap.size := by
  rcases Nat.lt_or_ge b w1.heap.size with h' | h'
  ·exact h'
  ·simp [Array.getElem?_eq_none h'] at hbk
 have hb2 : w2.heap[b]? = some (.cells #[.pointer (some ⟨b, 0, none⟩), v] 142 (0, 0)) := by
  rw [hgrow.block b hlt (fun e => hne e.symm)]
  exact hbk
 have d0 : w2.cell? ⟨b, 0, none⟩ = some (.pointer (some ⟨b, 0, none⟩)) := by rw [Lib.cell_of_heap hb2]; rfl
 have d1 : w2.cell? ⟨b, 1, none⟩ = some v := by rw [Lib.cell_of_heap hb2]; rfl
 have f1 : w2.frozen? ⟨b, 1, none⟩ = false := Lib.frozen_of_heap hb2 1
 obtain ⟨ao, n', cap, rfl⟩ : ∃ ao n' cap, v' = .slice ao n' cap := by
  rcases hown'.2 with ⟨hv, _⟩ | ⟨g, cap, cur, hv, _⟩
  ·exact ⟨_, _, _, hv⟩
  ·exact ⟨_, _, _, hv⟩
 go_wp2
 go_ret2
 refine ⟨rfl, ?_, ?_⟩
 ·exact Lib.BuilderAt.put (T := 142) (e := 5) hB hb2 (bs' := bs ++ Lib.strCells s) (by simpa [Lib.strCells_length] using hown') (by decide)
 ·exact (hb1.grown hgrow (by have := hb1.size; omega) (fun k hk => (hown.lt k hk).1)).setCell (p := ⟨b, 1, none⟩) hB _
def Bld (B b : Nat) (l : List UInt8) (w : World) : Prop := Lib.IsBuilder 142 5 B b (Lib.byteCells l) w
theorem byteCells_len (l : List UInt8) : (Lib.byteCells l).length = l.length := by unfold Lib.byteCells; rw [List.length_map]
theorem bld_write (B b : Nat) (l : List UInt8) (s : ByteArray) (w : World) (h : Bld B b l w) (hlen : l.length + s.size ≤ 140737488355328) (hBw : B ≤ w.heap.size) :
  Calls Tryz.prog 84 #[.pointer (some ⟨b, 0, none⟩), .string s] w fun e w' => e = .returned (.tuple #[.int .i64 s.size, .nilIface]) ∧ Bld B b (l ++ us s) w' ∧ Below B w w' := by
 refine (bld_write' B b _ s w h (by rw [byteCells_len]; exact hlen) hBw).mono ?_
 rintro e w' ⟨rfl, h1, h2⟩
 refine ⟨rfl, .inr ?_, h2⟩
 have : Lib.byteCells (l ++ us s) = Lib.byteCells l ++ Lib.strCells s := by unfold Lib.byteCells Lib.strCells; rw [List.map_append]; rfl
 rw [this]; exact h1
theorem bld_len (B b : Nat) (l : List UInt8) (w : World) (h : Bld B b l w) :
  Calls Tryz.prog 90 #[.pointer (some ⟨b, 0, none⟩)] w fun e w' => e = .returned (.int .i64 l.length) ∧ w = w' := by
 refine (Tryz.Builder_Len B b _ w h).mono ?_
 rintro e w' ⟨rfl, rfl⟩
 exact ⟨by rw [byteCells_len], rfl⟩
theorem bld_str (B b : Nat) (l : List UInt8) (w : World) (h : Bld B b l w) (hBw : B ≤ w.heap.size) :
  Calls Tryz.prog 87 #[.pointer (some ⟨b, 0, none⟩)] w fun e w' => e = .returned (.string (bs l)) ∧ Below B w w' :=
 Tryz.Builder_String_any B b l w h hBw
theorem Bld.new {w : World} {B b : Nat} (hb : w.heap[b]? = some (.cells #[.pointer none, .slice none 0 0] 142 (0, 0))) (hB : B ≤ b) : Bld B b [] w :=
 .inl ⟨hB, .slice none 0 0, hb, World.ownsRow_nil _ _ _ _, by simp [Value.ownBlock]⟩
theorem Bld.below {w w' : World} {B b : Nat} {l : List UInt8} (h : Bld B b l w) (hB : Below w.heap.size w w') : Bld B b l w' := by
 have key : ∀ p, Lib.BuilderAt 142 5 B b p (Lib.byteCells l) w → Lib.BuilderAt 142 5 B b p (Lib.byteCells l) w' := by
  rintro p ⟨h1, v, h2, h3, h4⟩
  have hlt := (Array.getElem?_eq_some_iff.1 h2).1
  refine ⟨h1, v, by rw [hB.block b hlt]; exact h2, ?_, h4⟩
  refine ⟨h3.1, ?_⟩
  rcases h3.2 with hn | ⟨g, cap, cur, rfl, hb, hgg, rest⟩
  ·exact .inl hn
  ·exact .inr ⟨g, cap, cur, rfl, hb, by rw [hB.block g (Array.getElem?_eq_some_iff.1 hgg).1]; exact hgg, rest⟩
 rcases h with h | h
 ·exact .inl (key _ h)
 ·exact .inr (key _ h)
theorem blk_f8 {w : World} {g : Nat} {t : TypeId} {a b c d e f i j : Value} (h : Blk w g t #[a, b, c, d, e, f, i, j]) :
  w.cell? ⟨g, 0, none⟩ = some a ∧ w.cell? ⟨g, 1, none⟩ = some b ∧ w.cell? ⟨g, 2, none⟩ = some c ∧ w.cell? ⟨g, 3, none⟩ = some d ∧ w.cell? ⟨g, 4, none⟩ = some e ∧ w.cell? ⟨g, 5, none⟩ = some f ∧ w.cell? ⟨g, 6, none⟩ = some i ∧ w.cell? ⟨g, 7, none⟩ = some j :=
 ⟨boxedCell h 0, boxedCell h 1, boxedCell h 2, boxedCell h 3, boxedCell h 4, boxedCell h 5, boxedCell h 6, boxedCell h 7⟩
end Go.Proofs.YtipdiddjhimdcaaGreatDoor
