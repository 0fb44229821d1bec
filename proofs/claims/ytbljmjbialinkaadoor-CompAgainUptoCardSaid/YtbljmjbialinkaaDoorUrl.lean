/-
  uri.list (with its map of names).
-/
import Derived.Test.YtbljmjbialinkaaDoorUrs
import Derived.Test.YtbljmjbialinkaaDoorFld
import Derived.Maps.OwnOps
import Derived.Maps.Views
namespace Go.Proofs.YtbljmjbialinkaaDoor
open Go.RowKit Go.Maps
open Go.WideMaps (keyOf_string_mk)

theorem undS : Tryd.prog.underlying 9 = some .string := by kernel_rfl
theorem undI : Tryd.prog.underlying 3 = some (.int .i64) := by kernel_rfl
theorem undM : Tryd.prog.underlying 42 = some (.map 9 3) := by kernel_rfl
theorem lawS : Keyed Tryd.prog 9 := string_keyed undS
theorem zeroI (w : World) : (zeroValue 3).run Tryd.prog w = .ok (.int .i64 0) w := by kernel_rfl
def z0 : DataW Unit := .lit (.int .i64 0)
def cntL (d : List Prm) (x : List UInt8) : Nat := (d.filter fun q => lowr q.name == x).length
/-- what the map of names holds -/
def CntIs (D : DataW Unit) (d : List Prm) : Prop := IsMap D ∧ ∀ x : List UInt8, D.atKey (.string x) z0 = .lit (.int .i64 (cntL d x))
theorem cnt_nil : CntIs (.map []) [] := ⟨isMap_empty, fun _ => rfl⟩
theorem isKey_str (x : List UInt8) (h : x.length ≤ maxLen) : WideAt.IsKeyLit (.string x) := by
  have := keyOf_string_mk (P := Tryd.prog) (k := 9) undS (s := bs x) (by rw [size_bs]; exact h)
  exact lawS.key this
theorem cnt_step {D : DataW Unit} {d : List Prm} (h : CntIs D d) (p : Prm) (hp : p.name.length ≤ 4294967280) :
    CntIs (D.put (.string (lowr p.name)) (.lit (.int .i64 ((cntL d (lowr p.name) : Int) + 1)))) (d ++ [p]) := by
  refine ⟨h.1.put _ _, fun x => ?_⟩
  by_cases hx : x = lowr p.name
  · subst hx
    rw [atKey_put_same h.1 (isKey_str _ (by rw [lowr_length]; unfold maxLen; omega))]
    unfold cntL
    rw [List.filter_append, List.length_append, List.filter_cons_of_pos (by simp)]
    simp
  · rw [atKey_put_other (by intro e; injection e with e; exact hx e), h.2]
    unfold cntL
    rw [List.filter_append, List.filter_cons_of_neg (by simpa using fun e => hx e.symm)]
    simp
theorem cnt_twice (d : List Prm) (n : List UInt8) : twiceU d n = decide (0 < cntL d (lowr n)) := by
  unfold twiceU cntL same
  rw [Bool.eq_iff_iff, decide_eq_true_iff, List.any_eq_true, List.length_pos_iff_exists_mem]
  constructor
  · rintro ⟨q, hq, h⟩; exact ⟨q, List.mem_filter.2 ⟨hq, h⟩⟩
  · rintro ⟨q, hq⟩; exact ⟨q, (List.mem_filter.1 hq).1, (List.mem_filter.1 hq).2⟩
theorem cnt_le (d : List Prm) (x : List UInt8) : cntL d x ≤ d.length := List.length_filter_le _ _
theorem own_below {w w' : World} {P : Program} {k : TypeId} {R : Value → Option (DataW Unit × List MemPlace)} {b n B : Nat} {D : DataW Unit} (h : w.ownsMap P k R b n D) (hB : Below B w w') (hb : b < B) : w'.ownsMap P k R b n D := by
  obtain ⟨es, clock, hh, rest⟩ := h
  exact ⟨es, clock, (hB.block b hb).trans hh, rest⟩
theorem blk_grown {w w' : World} {g b : Nat} {t : TypeId} {cs : Array Value} (h : Blk w g t cs) (hg : w.grownBy w' (some b)) (hne : g ≠ b) : Blk w' g t cs := by
  have h1 : w.heap[g]? = some (.cells cs t (0, 0)) := h
  exact (hg.block g (Array.getElem?_eq_some_iff.1 h1).1 (by simpa using hne)).trans h1
theorem list_bad (L : List Prm) (k : Nat) (hk : k < L.length) (hp : listGo [] L = listGo (L.take k) (L.drop k)) (h : okU L[k] = false ∨ twiceU (L.take k) L[k].name = true) : listU L = false := by
  unfold listU
  rw [hp, List.drop_eq_getElem_cons hk, listGo]
  rcases h with h | h <;> rw [h] <;> simp
theorem list_next (L : List Prm) (k : Nat) (hk : k < L.length) (hp : listGo [] L = listGo (L.take k) (L.drop k)) (h : okU L[k] = true) (h2 : twiceU (L.take k) L[k].name = false) : listGo [] L = listGo (L.take (k + 1)) (L.drop (k + 1)) := by
  rw [hp, List.drop_eq_getElem_cons hk, listGo, h, h2, List.take_succ_eq_append_getElem hk]; simp
theorem list_end (L : List Prm) (k : Nat) (hk : L.length ≤ k) (h16 : L.length ≤ 16) (hp : listGo [] L = listGo (L.take k) (L.drop k)) : listU L = true := by
  unfold listU
  rw [hp, List.drop_eq_nil_iff.2 hk, listGo, decide_eq_true h16]; rfl
theorem list_long (L : List Prm) (h : ¬ L.length ≤ 16) : listU L = false := by
  unfold listU; rw [decide_eq_false h]; rfl
theorem okU_cases (p : Prm) (N V : ByteArray) (hN : N.size = p.name.length) (hV : V.size = p.value.length) (tw : Bool) :
    (N.size = 0 ∧ okU p = false) ∨ (N.size ≠ 0 ∧ 64 < N.size ∧ okU p = false) ∨ (N.size ≠ 0 ∧ ¬ 64 < N.size ∧ 64 < V.size ∧ okU p = false) ∨
    (N.size ≠ 0 ∧ ¬ 64 < N.size ∧ ¬ 64 < V.size ∧ tw = true) ∨ (N.size ≠ 0 ∧ ¬ 64 < N.size ∧ ¬ 64 < V.size ∧ tw = false ∧ p.has = false ∧ V.size ≠ 0 ∧ okU p = false) ∨
    (N.size ≠ 0 ∧ ¬ 64 < N.size ∧ ¬ 64 < V.size ∧ tw = false ∧ p.has = false ∧ V.size = 0 ∧ okU p = true) ∨ (N.size ≠ 0 ∧ ¬ 64 < N.size ∧ ¬ 64 < V.size ∧ tw = false ∧ p.has = true ∧ okU p = true) := by
  have e : okU p = (decide (N.size ≠ 0) && decide (N.size ≤ 64) && decide (V.size ≤ 64) && (p.has || decide (V.size = 0))) := by
    unfold okU
    rw [← hN, ← hV]
    congr 1
    · congr 1; congr 1
      rw [Bool.eq_iff_iff, decide_eq_true_iff, decide_eq_true_iff]; omega
    · congr 1
      rw [Bool.eq_iff_iff, beq_iff_eq, decide_eq_true_iff, hV, List.length_eq_zero_iff]
  rw [e]
  by_cases h1 : N.size = 0
  · exact .inl ⟨h1, by simp [h1]⟩
  refine .inr ?_
  by_cases h2 : 64 < N.size
  · exact .inl ⟨h1, h2, by rw [show decide (N.size ≤ 64) = false from decide_eq_false (by omega)]; simp⟩
  refine .inr ?_
  by_cases h3 : 64 < V.size
  · exact .inl ⟨h1, h2, h3, by rw [show decide (V.size ≤ 64) = false from decide_eq_false (by omega)]; simp⟩
  refine .inr ?_
  cases tw
  case true => exact .inl ⟨h1, h2, h3, rfl⟩
  refine .inr ?_
  have a1 : decide (N.size ≠ 0) = true := decide_eq_true h1
  have a2 : decide (N.size ≤ 64) = true := decide_eq_true (by omega)
  have a3 : decide (V.size ≤ 64) = true := decide_eq_true (by omega)
  rw [a1, a2, a3]
  cases hh : p.has
  · by_cases h4 : V.size = 0
    · exact .inr (.inl ⟨h1, h2, h3, rfl, rfl, h4, by simp [h4]⟩)
    · exact .inl ⟨h1, h2, h3, rfl, rfl, h4, by simp [h4]⟩
  · exact .inr (.inr ⟨h1, h2, h3, rfl, rfl, by simp⟩)
section
variable {P : Program} {ops : Array Oper} {rest : List Oper} {o : Oper} {a : Act} {Q : Exit → Act → World → Prop}
/-- a look-up behind a guard that lets it through -/
theorem wpList_lookG {w : World} (hw : Region.wanted o (yielded ops a.tmps) = true) (m x : Operand) (t : TypeId) (hop : o.op = Op.lookup t m x false)
    (k e : TypeId) (K : Keyed P k) (ht : P.underlying t = some (.map k e)) (he : P.underlying e = some (.int .i64)) (hz : (zeroValue e).run P w = .ok (.int .i64 0) w) (b n : Nat) (D : DataW Unit)
    (hm : a.eval m = .map (some b)) (hown : w.ownsMap P k (plainElem P e) b n D) (key : Value) (kl : Lit) (hx : a.eval x = key) (hkey : keyOf P k key = some kl)
    (hK : ∀ c : Int, D.atKey kl (.lit (.int .i64 0)) = .lit (.int .i64 c) → (Lit.int .i64 c).wf = true → wpList P ops Q rest (a.put o.dst (.int .i64 c)) w) :
    wpList P ops Q (o :: rest) a w := by
  refine wpList_step fun K' hK' => ?_
  rw [if_pos hw]
  obtain ⟨c, hrun, hat, hwc⟩ := hown.lookup_int K ht he hz hkey
  unfold Oper.wp
  simp [execOp, hop, hm, hx, hrun, Result.andThen]
  exact hK' _ _ (hK c hat hwc)
end

set_option maxRecDepth 100000 in
set_option maxHeartbeats 6400000 in
theorem listF_c (v : Value) (L : List Prm) (w : World) (h1 : RPrms w v L) (hbd : ∀ p ∈ L, p.name.length ≤ 4294967280 ∧ p.value.length ≤ 4294967280) :
    Calls Tryd.prog 47 #[v] w fun e w' => e = .returned (.bool (listU L)) ∧ Below w.heap.size w w' := by
  obtain ⟨ao, cap, rfl, hm1, c1⟩ := h1.form
  have C1 := Lib.hid c1
  have HBD := Lib.hid hbd
  clear c1 h1 hbd
  unfold maxLen at hm1
  have hmm := @run_makeMap Tryd.prog
  by_cases h16 : L.length ≤ 16
  case neg =>
    have HE := Lib.hid (list_long L h16)
    go_enter Tryd.func47, Tryd.ntmps47
    go_wp2
    go_ret
    exact ⟨ret_bool HE.out.symm, Below.refl _ _⟩
  · have HLB := Lib.hid (fun k hk => list_bad L k hk)
    have HLN := Lib.hid (fun k hk => list_next L k hk)
    have HLE := Lib.hid (fun k hk => list_end L k hk h16)
    go_enter Tryd.func47, Tryd.ntmps47
    go_wp2
    go_loopw [13] (fun i wr => ∃ (k : Nat) (D : DataW Unit), k ≤ L.length ∧ i = .int .i64 k ∧ wr.ownsMap Tryd.prog 9 (plainElem Tryd.prog 3) w.heap.size k D ∧ Hid (CntIs D (L.take k)) ∧ Hid (Below w.heap.size w wr) ∧ Hid (listGo [] L = listGo (L.take k) (L.drop k))) (fun i _ => L.length - (intOf i).toNat)
    case atStart => exact ⟨0, .map [], Nat.zero_le _, rfl, World.ownsMap_made _ _ _ _, Lib.hid cnt_nil, Lib.hid ((Below.refl _ _).alloc (Nat.le_refl _) _), Lib.hid rfl⟩
    case round =>
      obtain ⟨k, D, hk, rfl, hown, HC, HB, HP⟩ := hrel
      by_cases hlt : k < L.length
      · obtain ⟨b, off, rfl, hb1, hc1⟩ := C1.out (by omega)
        have x0 : wr.cell? ⟨b, off + k * 3, none⟩ = some (.string (bs L[k].name)) := by rw [HB.out.cell (p := ⟨b, off + k * 3, none⟩) hb1]; exact (hc1 k hlt).1
        have x1 : wr.cell? ⟨b, off + k * 3 + 1, none⟩ = some (.string (bs L[k].value)) := by rw [HB.out.cell (p := ⟨b, off + k * 3 + 1, none⟩) hb1]; exact (hc1 k hlt).2.1
        have x2 : wr.cell? ⟨b, off + k * 3 + 2, none⟩ = some (.bool L[k].has) := by rw [HB.out.cell (p := ⟨b, off + k * 3 + 2, none⟩) hb1]; exact (hc1 k hlt).2.2
        have hpb := HBD.out _ (List.getElem_mem hlt)
        have hcs := okU_cases L[k] (bs L[k].name) (bs L[k].value) (size_bs _) (size_bs _) (twiceU (L.take k) L[k].name)
        have hct := cnt_twice (L.take k) L[k].name
        have hcl := cnt_le (L.take k) (lowr L[k].name)
        rw [List.length_take, Nat.min_eq_left (by omega)] at hcl
        have hst := cnt_step HC.out L[k] hpb.1
        have hat0 := HC.out.2 (lowr L[k].name)
        have hatk := atKey_put_same (D := D) (k := .string (lowr L[k].name)) HC.out.1 (isKey_str _ (by rw [lowr_length]; unfold maxLen; omega)) (.lit (.int .i64 ((cntL (L.take k) (lowr L[k].name) : Int) + 1))) z0
        have HL := Lib.hid (fun wx => lowerP_c (bs L[k].name) (by rw [size_bs]; omega) wx)
        rw [us_bs] at HL
        have hkey : keyOf Tryd.prog 9 (.string (bs (lowr L[k].name))) = some (.string (lowr L[k].name)) := by
          have := keyOf_string_mk (P := Tryd.prog) (k := 9) undS (s := bs (lowr L[k].name)) (by rw [size_bs, lowr_length]; unfold maxLen; omega)
          rw [this]; simp [bs]
        obtain ⟨c0, hc0⟩ : ∃ c, c = cntL (L.take k) (lowr L[k].name) := ⟨_, rfl⟩
        rw [← hc0] at hct hcl hst hat0 hatk
        rw [← List.take_succ_eq_append_getElem hlt] at hst
        obtain ⟨tw, htw⟩ : ∃ t, t = twiceU (L.take k) L[k].name := ⟨_, rfl⟩
        rw [← htw] at hcs hct
        obtain ⟨kl, hkl⟩ : ∃ l, l = lowr L[k].name := ⟨_, rfl⟩
        rw [← hkl] at hst hat0 hatk hkey HL
        obtain ⟨LW, hLW⟩ : ∃ l, l = bs kl := ⟨_, rfl⟩
        rw [← hLW] at hkey HL
        obtain ⟨N, hN⟩ : ∃ N, N = bs L[k].name := ⟨_, rfl⟩
        rw [← hN] at x0 hcs HL
        obtain ⟨V, hV⟩ : ∃ V, V = bs L[k].value := ⟨_, rfl⟩
        rw [← hV] at x1 hcs
        have hNs : N.size ≤ 4294967280 := by rw [hN, size_bs]; omega
        have hVs : V.size ≤ 4294967280 := by rw [hV, size_bs]; omega
        have HCC := Lib.hid (fun (c : Int) (h : D.atKey (.string kl) (.lit (.int .i64 0)) = .lit (.int .i64 c)) => (show (c0 : Int) = c from by have := hat0.symm.trans h; injection this with this; injection this))
        have HCD := Lib.hid (fun (c : Int) (h : (D.put (.string kl) (.lit (.int .i64 ((c0 : Int) + 1)))).atKey (.string kl) (.lit (.int .i64 0)) = .lit (.int .i64 c)) => (show (c0 : Int) + 1 = c from by have := hatk.symm.trans h; injection this with this; injection this))
        have HK := Lib.hid hkey
        have HST := Lib.hid hst
        have HTW := Lib.hid htw
        have c16 : c0 ≤ 16 := by omega
        have c00 : (0 : Int) ≤ (c0 : Int) := by omega
        have k0 : (0 : Int) ≤ (k : Int) := by omega
        have k1 : (k : Int) < (L.length : Int) := by omega
        have hwl := hown.lt
        obtain ⟨h, hh⟩ : ∃ h, h = L[k].has := ⟨_, rfl⟩
        rw [← hh] at x2 hcs
        have bm0 : Blk (wr.alloc (.cells #[.string N, .string V, .bool h] 90)) wr.heap.size 90 #[.string N, .string V, .bool h] := Blk.new _ _ _
        have hownp := own_below hown ((Below.refl wr.heap.size wr).alloc (Nat.le_refl _) (.cells #[.string N, .string V, .bool h] 90)) hwl
        have hBp := HB.out.alloc (Nat.le_of_lt hwl) (.cells #[.string N, .string V, .bool h] 90)
        obtain ⟨wp, hwp⟩ : ∃ wp, wp = wr.alloc (.cells #[.string N, .string V, .bool h] 90) := ⟨_, rfl⟩
        rw [← hwp] at bm0 hownp hBp
        have hltp := hownp.lt
        have HWP := Lib.hid hwp
        have HBP := Lib.hid hBp
        have HNE := Lib.hid (show wr.heap.size ≠ w.heap.size by omega)
        clear hc1 hb1 hpb hst hat0 hatk hkey hc0 htw hkl hLW hN hV hh hwp hBp
        rcases hcs with ⟨n1, ho⟩ | ⟨n1, n2, ho⟩ | ⟨n1, n2, n3, ho⟩ | ⟨n1, n2, n3, rfl⟩ | ⟨n1, n2, n3, rfl, rfl, n4, ho⟩ | ⟨n1, n2, n3, rfl, rfl, n4, ho⟩ | ⟨n1, n2, n3, rfl, rfl, ho⟩
        · obtain rfl := eq_empty n1
          clear n1
          have HE := Lib.hid (HLB.out k hlt HP.out (.inl ho))
          go_wp2_with (first | (go_at_call 26; (try rw [← HWP.out]); refine (HL.out _).mono ?_; rintro e w1 ⟨rfl, hC1⟩; have bm1 := bm0.call hC1; have hown1 := own_below hownp hC1 hltp; have hB1 := HBP.out.trans (hC1.mono HBP.out.size); have HBS := Lib.hid hB1; obtain ⟨c3, hrun1, hat3, hwc3⟩ := hown1.lookup_int lawS undM undI (zeroI _) HK.out; obtain rfl := HCC.out c3 hat3; clear hat3 hwc3) | (at_mapUpdate; refine wpList_mapUpdate_own _ rfl _ _ _ 42 rfl 9 3 lawS undM _ w.heap.size k _ rfl hown1 (by unfold maxLen; omega) _ _ _ rfl rfl HK.out _ [] (plainElem_int undI (WalkArith.wf_i64 (by omega))) ?_; intro w2 hown2 hgrow2; have bm2 := blk_grown bm1 hgrow2 HNE.out; have hB2 := HBS.out.grown hgrow2 HBS.out.size (fun j hj => by cases hj; exact Nat.le_refl _); obtain ⟨r0, r1, r2, f0, f1, f2, hz⟩ := bm2.f3; obtain ⟨c2, hrun, hat2, hwc2⟩ := hown2.lookup_int lawS undM undI (zeroI _) HK.out; obtain rfl := HCD.out c2 hat2; clear hat2 hwc2))
          go_ret
          exact ⟨ret_bool HE.out.symm, hB2⟩
        · have pE := ne_empty n1
          have pF := isEmpty_f n1
          have HE := Lib.hid (HLB.out k hlt HP.out (.inl ho))
          go_wp2_with (first | (go_at_call 26; (try rw [← HWP.out]); refine (HL.out _).mono ?_; rintro e w1 ⟨rfl, hC1⟩; have bm1 := bm0.call hC1; have hown1 := own_below hownp hC1 hltp; have hB1 := HBP.out.trans (hC1.mono HBP.out.size); have HBS := Lib.hid hB1; obtain ⟨c3, hrun1, hat3, hwc3⟩ := hown1.lookup_int lawS undM undI (zeroI _) HK.out; obtain rfl := HCC.out c3 hat3; clear hat3 hwc3) | (at_mapUpdate; refine wpList_mapUpdate_own _ rfl _ _ _ 42 rfl 9 3 lawS undM _ w.heap.size k _ rfl hown1 (by unfold maxLen; omega) _ _ _ rfl rfl HK.out _ [] (plainElem_int undI (WalkArith.wf_i64 (by omega))) ?_; intro w2 hown2 hgrow2; have bm2 := blk_grown bm1 hgrow2 HNE.out; have hB2 := HBS.out.grown hgrow2 HBS.out.size (fun j hj => by cases hj; exact Nat.le_refl _); obtain ⟨r0, r1, r2, f0, f1, f2, hz⟩ := bm2.f3; obtain ⟨c2, hrun, hat2, hwc2⟩ := hown2.lookup_int lawS undM undI (zeroI _) HK.out; obtain rfl := HCD.out c2 hat2; clear hat2 hwc2))
          go_ret
          exact ⟨ret_bool HE.out.symm, hB2⟩
        · have pE := ne_empty n1
          have pF := isEmpty_f n1
          have HE := Lib.hid (HLB.out k hlt HP.out (.inl ho))
          go_wp2_with (first | (go_at_call 26; (try rw [← HWP.out]); refine (HL.out _).mono ?_; rintro e w1 ⟨rfl, hC1⟩; have bm1 := bm0.call hC1; have hown1 := own_below hownp hC1 hltp; have hB1 := HBP.out.trans (hC1.mono HBP.out.size); have HBS := Lib.hid hB1; obtain ⟨c3, hrun1, hat3, hwc3⟩ := hown1.lookup_int lawS undM undI (zeroI _) HK.out; obtain rfl := HCC.out c3 hat3; clear hat3 hwc3) | (at_mapUpdate; refine wpList_mapUpdate_own _ rfl _ _ _ 42 rfl 9 3 lawS undM _ w.heap.size k _ rfl hown1 (by unfold maxLen; omega) _ _ _ rfl rfl HK.out _ [] (plainElem_int undI (WalkArith.wf_i64 (by omega))) ?_; intro w2 hown2 hgrow2; have bm2 := blk_grown bm1 hgrow2 HNE.out; have hB2 := HBS.out.grown hgrow2 HBS.out.size (fun j hj => by cases hj; exact Nat.le_refl _); obtain ⟨r0, r1, r2, f0, f1, f2, hz⟩ := bm2.f3; obtain ⟨c2, hrun, hat2, hwc2⟩ := hown2.lookup_int lawS undM undI (zeroI _) HK.out; obtain rfl := HCD.out c2 hat2; clear hat2 hwc2))
          go_ret
          exact ⟨ret_bool HE.out.symm, hB2⟩
        · have pE := ne_empty n1
          have pF := isEmpty_f n1
          have c1 : (1 : Int) < (c0 : Int) + 1 := by have := of_decide_eq_true hct.symm; omega
          clear hct
          have HE := Lib.hid (HLB.out k hlt HP.out (.inr HTW.out.symm))
          go_wp2_with (first | (go_at_call 26; (try rw [← HWP.out]); refine (HL.out _).mono ?_; rintro e w1 ⟨rfl, hC1⟩; have bm1 := bm0.call hC1; have hown1 := own_below hownp hC1 hltp; have hB1 := HBP.out.trans (hC1.mono HBP.out.size); have HBS := Lib.hid hB1; obtain ⟨c3, hrun1, hat3, hwc3⟩ := hown1.lookup_int lawS undM undI (zeroI _) HK.out; obtain rfl := HCC.out c3 hat3; clear hat3 hwc3) | (at_mapUpdate; refine wpList_mapUpdate_own _ rfl _ _ _ 42 rfl 9 3 lawS undM _ w.heap.size k _ rfl hown1 (by unfold maxLen; omega) _ _ _ rfl rfl HK.out _ [] (plainElem_int undI (WalkArith.wf_i64 (by omega))) ?_; intro w2 hown2 hgrow2; have bm2 := blk_grown bm1 hgrow2 HNE.out; have hB2 := HBS.out.grown hgrow2 HBS.out.size (fun j hj => by cases hj; exact Nat.le_refl _); obtain ⟨r0, r1, r2, f0, f1, f2, hz⟩ := bm2.f3; obtain ⟨c2, hrun, hat2, hwc2⟩ := hown2.lookup_int lawS undM undI (zeroI _) HK.out; obtain rfl := HCD.out c2 hat2; clear hat2 hwc2))
          go_ret
          exact ⟨ret_bool HE.out.symm, hB2⟩
        · have pE := ne_empty n1
          have pF := isEmpty_f n1
          have c1 : ¬ ((1 : Int) < (c0 : Int) + 1) := by have := of_decide_eq_false hct.symm; omega
          clear hct
          have qE := ne_empty n4
          have qF := isEmpty_f n4
          have HE := Lib.hid (HLB.out k hlt HP.out (.inl ho))
          go_wp2_with (first | (go_at_call 26; (try rw [← HWP.out]); refine (HL.out _).mono ?_; rintro e w1 ⟨rfl, hC1⟩; have bm1 := bm0.call hC1; have hown1 := own_below hownp hC1 hltp; have hB1 := HBP.out.trans (hC1.mono HBP.out.size); have HBS := Lib.hid hB1; obtain ⟨c3, hrun1, hat3, hwc3⟩ := hown1.lookup_int lawS undM undI (zeroI _) HK.out; obtain rfl := HCC.out c3 hat3; clear hat3 hwc3) | (at_mapUpdate; refine wpList_mapUpdate_own _ rfl _ _ _ 42 rfl 9 3 lawS undM _ w.heap.size k _ rfl hown1 (by unfold maxLen; omega) _ _ _ rfl rfl HK.out _ [] (plainElem_int undI (WalkArith.wf_i64 (by omega))) ?_; intro w2 hown2 hgrow2; have bm2 := blk_grown bm1 hgrow2 HNE.out; have hB2 := HBS.out.grown hgrow2 HBS.out.size (fun j hj => by cases hj; exact Nat.le_refl _); obtain ⟨r0, r1, r2, f0, f1, f2, hz⟩ := bm2.f3; obtain ⟨c2, hrun, hat2, hwc2⟩ := hown2.lookup_int lawS undM undI (zeroI _) HK.out; obtain rfl := HCD.out c2 hat2; clear hat2 hwc2))
          go_ret
          exact ⟨ret_bool HE.out.symm, hB2⟩
        · have pE := ne_empty n1
          have pF := isEmpty_f n1
          have c1 : ¬ ((1 : Int) < (c0 : Int) + 1) := by have := of_decide_eq_false hct.symm; omega
          clear hct
          obtain rfl := eq_empty n4
          clear n4
          have HN := Lib.hid (HLN.out k hlt HP.out ho HTW.out.symm)
          go_wp2_with (first | (go_at_call 26; (try rw [← HWP.out]); refine (HL.out _).mono ?_; rintro e w1 ⟨rfl, hC1⟩; have bm1 := bm0.call hC1; have hown1 := own_below hownp hC1 hltp; have hB1 := HBP.out.trans (hC1.mono HBP.out.size); have HBS := Lib.hid hB1; obtain ⟨c3, hrun1, hat3, hwc3⟩ := hown1.lookup_int lawS undM undI (zeroI _) HK.out; obtain rfl := HCC.out c3 hat3; clear hat3 hwc3) | (at_mapUpdate; refine wpList_mapUpdate_own _ rfl _ _ _ 42 rfl 9 3 lawS undM _ w.heap.size k _ rfl hown1 (by unfold maxLen; omega) _ _ _ rfl rfl HK.out _ [] (plainElem_int undI (WalkArith.wf_i64 (by omega))) ?_; intro w2 hown2 hgrow2; have bm2 := blk_grown bm1 hgrow2 HNE.out; have hB2 := HBS.out.grown hgrow2 HBS.out.size (fun j hj => by cases hj; exact Nat.le_refl _); obtain ⟨r0, r1, r2, f0, f1, f2, hz⟩ := bm2.f3; obtain ⟨c2, hrun, hat2, hwc2⟩ := hown2.lookup_int lawS undM undI (zeroI _) HK.out; obtain rfl := HCD.out c2 hat2; clear hat2 hwc2))
          go_roundw
          case rel => exact ⟨k + 1, _, by omega, by go_num, hown2, HST, Lib.hid hB2, HN⟩
          case measure => simp [intOf]; omega
        · have pE := ne_empty n1
          have pF := isEmpty_f n1
          have c1 : ¬ ((1 : Int) < (c0 : Int) + 1) := by have := of_decide_eq_false hct.symm; omega
          clear hct
          have HN := Lib.hid (HLN.out k hlt HP.out ho HTW.out.symm)
          go_wp2_with (first | (go_at_call 26; (try rw [← HWP.out]); refine (HL.out _).mono ?_; rintro e w1 ⟨rfl, hC1⟩; have bm1 := bm0.call hC1; have hown1 := own_below hownp hC1 hltp; have hB1 := HBP.out.trans (hC1.mono HBP.out.size); have HBS := Lib.hid hB1; obtain ⟨c3, hrun1, hat3, hwc3⟩ := hown1.lookup_int lawS undM undI (zeroI _) HK.out; obtain rfl := HCC.out c3 hat3; clear hat3 hwc3) | (at_mapUpdate; refine wpList_mapUpdate_own _ rfl _ _ _ 42 rfl 9 3 lawS undM _ w.heap.size k _ rfl hown1 (by unfold maxLen; omega) _ _ _ rfl rfl HK.out _ [] (plainElem_int undI (WalkArith.wf_i64 (by omega))) ?_; intro w2 hown2 hgrow2; have bm2 := blk_grown bm1 hgrow2 HNE.out; have hB2 := HBS.out.grown hgrow2 HBS.out.size (fun j hj => by cases hj; exact Nat.le_refl _); obtain ⟨r0, r1, r2, f0, f1, f2, hz⟩ := bm2.f3; obtain ⟨c2, hrun, hat2, hwc2⟩ := hown2.lookup_int lawS undM undI (zeroI _) HK.out; obtain rfl := HCD.out c2 hat2; clear hat2 hwc2))
          go_roundw
          case rel => exact ⟨k + 1, _, by omega, by go_num, hown2, HST, Lib.hid hB2, HN⟩
          case measure => simp [intOf]; omega
      · have HE := Lib.hid (HLE.out k (by omega) HP.out)
        go_wp2
        go_ret
        exact ⟨ret_bool HE.out.symm, HB.out⟩

end Go.Proofs.YtbljmjbialinkaaDoor
