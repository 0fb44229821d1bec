/-
  pidf.Check.
-/
import Derived.Test.YtbljmjbialinkaaDoorXcu
import Derived.Test.YtbljmjbialinkaaDoorPid
namespace Go.Proofs.YtbljmjbialinkaaDoor
set_option linter.unusedSimpArgs false
set_option linter.unusedVariables false
open Go.RowKit Go.Sort Go.Maps

theorem RStrs.formT {w : World} {v : Value} {L : List (List UInt8)} (h : RStrs w v L) : ∃ ao cap, v = .slice ao L.length cap ∧ L.length ≤ maxLen ∧
    (0 < L.length → ∃ b off, ao = some ⟨b, off, none⟩ ∧ b < w.heap.size ∧ ∀ j (hj : j < L.length), w.cell? ⟨b, off + j, none⟩ = some (sv L[j])) := by
  rcases h with ⟨⟨ao, cap, rfl⟩, h2, h3⟩ | ⟨b, off, cap, rfl, h2, h2', h3, h4⟩
  · refine ⟨ao, cap, by rw [h2], by omega, fun h => by omega⟩
  · refine ⟨some ⟨b, off, none⟩, cap, rfl, Nat.le_trans h2 h2', fun _ => ⟨b, off, rfl, h3, fun j hj => h4 j _ ?_⟩⟩
    rw [List.getElem?_map, List.getElem?_eq_getElem hj]; rfl
def tupsOK (ids : List (List UInt8)) (L : List Tup) : Bool := L.all tupOK && apartB ids L
theorem okDoc_parts (d : Doc) : okDoc d = (hostW d.ent && decide (d.tups.length ≤ 16) && decide (d.notes.length ≤ 16) && tupsOK [] d.tups && d.notes.all noteOK) := by
  unfold okDoc tupsOK
  rw [Bool.and_assoc (hostW d.ent && decide (d.tups.length ≤ 16) && decide (d.notes.length ≤ 16))]
theorem tups_bad (L : List Tup) (k : Nat) (hk : k < L.length) (hp : tupsOK [] L = tupsOK ((L.take k).map Tup.id) (L.drop k)) (h : tupOK L[k] = false ∨ L[k].id ∈ (L.take k).map Tup.id) : tupsOK [] L = false := by
  rw [hp, List.drop_eq_getElem_cons hk]
  unfold tupsOK
  rw [List.all_cons, apartB]
  rcases h with h | h
  · rw [h]; rfl
  · rw [decide_eq_true h]; simp
theorem tups_next (L : List Tup) (k : Nat) (hk : k < L.length) (hp : tupsOK [] L = tupsOK ((L.take k).map Tup.id) (L.drop k)) (h : tupOK L[k] = true) (h2 : ¬ L[k].id ∈ (L.take k).map Tup.id) : tupsOK [] L = tupsOK ((L.take (k + 1)).map Tup.id) (L.drop (k + 1)) := by
  rw [hp, List.drop_eq_getElem_cons hk, List.take_succ_eq_append_getElem hk, List.map_append]
  unfold tupsOK
  rw [List.all_cons, apartB, h, decide_eq_false h2]; rfl
theorem tups_end (L : List Tup) (k : Nat) (hk : L.length ≤ k) (hp : tupsOK [] L = tupsOK ((L.take k).map Tup.id) (L.drop k)) : tupsOK [] L = true := by
  rw [hp, List.drop_eq_nil_iff.2 hk]; rfl
theorem notes_bad (L : List (List UInt8)) (k : Nat) (hk : k < L.length) (h : noteOK L[k] = false) : L.all noteOK = false := by
  rw [← Bool.not_eq_true, List.all_eq_true]
  intro hall
  have := hall _ (List.getElem_mem hk)
  rw [h] at this; cases this
theorem notes_next (L : List (List UInt8)) (k : Nat) (hk : k < L.length) (hp : (L.take k).all noteOK = true) (h : noteOK L[k] = true) : (L.take (k + 1)).all noteOK = true := by
  rw [List.take_succ_eq_append_getElem hk, List.all_append, hp]; simp [h]
theorem notes_end (L : List (List UInt8)) (k : Nat) (hk : L.length ≤ k) (hp : (L.take k).all noteOK = true) : L.all noteOK = true := by
  rwa [List.take_of_length_le hk] at hp
theorem blk_f3T {w : World} {g : Nat} {t : TypeId} {a b c : Value} (h : Blk w g t #[a, b, c]) :
    w.cell? ⟨g, 0, none⟩ = some a ∧ w.cell? ⟨g, 1, none⟩ = some b ∧ w.cell? ⟨g, 2, none⟩ = some c := ⟨boxedCell h 0, boxedCell h 1, boxedCell h 2⟩

set_option maxRecDepth 100000 in
set_option maxHeartbeats 12800000 in
theorem pidfCheck_c (v : Value) (d : Doc) (hbd : DocBd 1048576 d) (w : World) (hm : Ml w) (hd : RDoc w v d) :
    Calls Tryd.prog 11 #[v] w fun e w' => e = .returned (.int .i64 (if okDoc d = true then 0 else 140)) ∧ Below w.heap.size w w' := by
  obtain ⟨u1, u2, rfl, h1, h2⟩ := hd
  obtain ⟨d1, d2, d3⟩ := hbd
  obtain ⟨ao, ac, rfl, hm1, c1⟩ := h1.form
  obtain ⟨bo, bc, rfl, hm2, c2⟩ := h2.formT
  have C1 := Lib.hid c1
  have C2 := Lib.hid c2
  have D2 := Lib.hid d2
  have D3 := Lib.hid d3
  have HH := Lib.hid (fun wx hx => sameHost_c (bs d.ent) (by rw [size_bs]; exact d1) wx hx)
  rw [us_bs] at HH
  have hok := okDoc_parts d
  obtain ⟨OK, hOK⟩ : ∃ x, x = okDoc d := ⟨_, rfl⟩
  rw [← hOK] at hok ⊢
  obtain ⟨EC, hEC⟩ : ∃ x : Int, x = if OK = true then 0 else 140 := ⟨_, rfl⟩
  rw [← hEC]
  have HF : Hid (OK = false → EC = 140) := Lib.hid (fun h => by rw [hEC, h]; rfl)
  have HT : Hid (OK = true → EC = 0) := Lib.hid (fun h => by rw [hEC, h]; rfl)
  have HM := Lib.hid hm
  have hmm := @run_makeMap Tryd.prog
  obtain ⟨HW, hHW⟩ : ∃ x, x = hostW d.ent := ⟨_, rfl⟩
  rw [← hHW] at HH hok
  unfold maxLen at hm1 hm2
  obtain ⟨E, hE⟩ : ∃ x, x = bs d.ent := ⟨_, rfl⟩
  unfold sv
  rw [← hE] at HH ⊢
  clear hOK hEC hHW hE d1 d2 d3 c1 c2 h1 h2 hm
  have hB0 : Below w.heap.size w (w.alloc (.cells #[.string E, .slice ao d.tups.length ac, .slice bo d.notes.length bc] 25)) := (Below.refl _ _).alloc (Nat.le_refl _) _
  have bm0 := Blk.new w 25 #[.string E, .slice ao d.tups.length ac, .slice bo d.notes.length bc]
  obtain ⟨w0, hw0⟩ : ∃ w0, w0 = w.alloc (.cells #[.string E, .slice ao d.tups.length ac, .slice bo d.notes.length bc] 25) := ⟨_, rfl⟩
  rw [← hw0] at hB0 bm0
  have HW0 := Lib.hid hw0
  have hM0 := Lib.hid (HM.out.below hB0)
  obtain ⟨p0, p1, p2⟩ := blk_f3T bm0
  clear hw0
  have hcs : (HW = false ∧ OK = false) ∨ (HW = true ∧ (16 : Int) < d.tups.length ∧ OK = false) ∨ (HW = true ∧ ¬ (16 : Int) < d.tups.length ∧ (16 : Int) < d.notes.length ∧ OK = false) ∨
      (HW = true ∧ ¬ (16 : Int) < d.tups.length ∧ ¬ (16 : Int) < d.notes.length ∧ OK = (tupsOK [] d.tups && d.notes.all noteOK)) := by
    by_cases a1 : d.tups.length ≤ 16
    · by_cases a2 : d.notes.length ≤ 16
      · rw [decide_eq_true a1, decide_eq_true a2] at hok
        cases HW
        · exact .inl ⟨rfl, hok⟩
        · exact .inr (.inr (.inr ⟨rfl, by omega, by omega, hok⟩))
      · rw [decide_eq_true a1, decide_eq_false a2] at hok
        cases HW
        · exact .inl ⟨rfl, hok⟩
        · exact .inr (.inr (.inl ⟨rfl, by omega, by omega, hok⟩))
    · rw [decide_eq_false a1] at hok
      cases HW
      · exact .inl ⟨rfl, hok⟩
      · exact .inr (.inl ⟨rfl, by omega, hok⟩)
  clear hok
  rcases hcs with ⟨rfl, hz⟩ | ⟨rfl, k1, hz⟩ | ⟨rfl, k1, k2, hz⟩ | ⟨rfl, k1, k2, hz⟩
  case inr.inr.inr =>
    have HZ := Lib.hid hz
    clear hz
    go_enter Tryd.func11, Tryd.ntmps11
    go_upto_region 5 with (go_at_call 16; (try rw [← HW0.out]); refine (HH.out _ hM0.out).mono ?_; rintro e w1 ⟨x, n, rfl, hn, hC1⟩; have bm1 := bm0.call hC1; have hB1 := hB0.trans (hC1.mono hB0.size); clear p0 p1 p2; obtain ⟨p0, p1, p2⟩ := blk_f3T bm1; have hnn : (n != 0) = false := by rw [bne, hn]; rfl)
    have hown0 := World.ownsMap_made w1 Tryd.prog 9 (plainElem (H := Unit) Tryd.prog 3)
    have hB2 := hB1.alloc hB1.size (.map #[] 0)
    have bm2 := bm1.call ((Below.refl w1.heap.size w1).alloc (Nat.le_refl _) (.map #[] 0))
    have hlt1 : w.heap.size < w1.heap.size := bm1.lt
    obtain ⟨M, hM⟩ : ∃ M, M = w1.heap.size := ⟨_, rfl⟩
    rw [← hM] at hown0 hlt1
    obtain ⟨w2, hw2⟩ : ∃ w2, w2 = w1.alloc (.map #[] 0) := ⟨_, rfl⟩
    rw [← hw2] at hown0 hB2 bm2 ⊢
    simp only [← hM]
    clear hw2 hM p0 p1 p2 bm1 hB1 hC1 bm0 hB0 hnn hn
    obtain ⟨p0, p1, p2⟩ := blk_f3T bm2
    have HB2 := Lib.hid hB2
    have BM2 := Lib.hid bm2
    have HO0 := Lib.hid hown0
    clear hB2 bm2 hown0
    go_wp2
    go_loopw [34] (fun i wr => ∃ (k : Nat) (D : DataW Unit), k ≤ d.tups.length ∧ i = .int .i64 k ∧ wr.ownsMap Tryd.prog 9 (plainElem Tryd.prog 3) M k D ∧ Hid (CntS D ((d.tups.take k).map Tup.id)) ∧ Hid (Below w.heap.size w wr) ∧ Blk wr w.heap.size 25 #[.string E, .slice ao d.tups.length ac, .slice bo d.notes.length bc] ∧ Hid (tupsOK [] d.tups = tupsOK ((d.tups.take k).map Tup.id) (d.tups.drop k))) (fun i _ => d.tups.length - (intOf i).toNat)
    case atStart => exact ⟨0, .map [], Nat.zero_le _, rfl, HO0.out, Lib.hid cntA_nil, HB2, BM2.out, Lib.hid rfl⟩
    case round =>
      clear p0 p1 p2
      obtain ⟨k, D, hk, rfl, hown, HC, HB, bmd, HP⟩ := hrel
      obtain ⟨p0, p1, p2⟩ := blk_f3T bmd
      by_cases hlt : k < d.tups.length
      · obtain ⟨b, off, rfl, hb1, hc1⟩ := C1.out (by omega)
        obtain ⟨t, ht⟩ : ∃ t, t = d.tups[k] := ⟨_, rfl⟩
        have htb : TupBd 1048576 t := by rw [ht]; exact D2.out _ (List.getElem_mem hlt)
        have hcell := hc1 k hlt
        rw [← ht] at hcell
        obtain ⟨y0, y1, y2, y3, y4⟩ := hcell
        have x0 : wr.cell? ⟨b, off + k * 5, none⟩ = some (sv t.id) := by rw [HB.out.cell (p := ⟨b, off + k * 5, none⟩) hb1]; exact y0
        have x1 : wr.cell? ⟨b, off + k * 5 + 1, none⟩ = some (.bool t.opn) := by rw [HB.out.cell (p := ⟨b, off + k * 5 + 1, none⟩) hb1]; exact y1
        have x2 : wr.cell? ⟨b, off + k * 5 + 2, none⟩ = some (sv t.con) := by rw [HB.out.cell (p := ⟨b, off + k * 5 + 2, none⟩) hb1]; exact y2
        have x3 : wr.cell? ⟨b, off + k * 5 + 3, none⟩ = some (.int .i64 t.prio) := by rw [HB.out.cell (p := ⟨b, off + k * 5 + 3, none⟩) hb1]; exact y3
        have x4 : wr.cell? ⟨b, off + k * 5 + 4, none⟩ = some (sv t.note) := by rw [HB.out.cell (p := ⟨b, off + k * 5 + 4, none⟩) hb1]; exact y4
        clear y0 y1 y2 y3 y4
        have hgood : goodS t.id := by unfold goodS; have := htb.1; omega
        have hTU := fun wx => tuple_c t (htb.mono (by omega)) wx
        have hkey := key_str t.id hgood
        have HBAD := Lib.hid (fun h => tups_bad d.tups k hlt HP.out h)
        have HNXT := Lib.hid (fun h h2 => tups_next d.tups k hlt HP.out h h2)
        have hst := cntS_step HC.out t.id hgood
        have hat := cntA_put isKey_S HC.out t.id hgood (.lit (.int .i64 ((cntN ((d.tups.take k).map Tup.id) t.id : Int) + 1)))
        have hps := cntN_pos ((d.tups.take k).map Tup.id) t.id
        have hcl := cntN_le ((d.tups.take k).map Tup.id) t.id
        rw [List.length_map, List.length_take, Nat.min_eq_left (by omega)] at hcl
        have HCC := Lib.hid (fun (c : Int) h => cntA_at HC.out t.id hgood c h)
        have htk : (d.tups.take k).map Tup.id ++ [t.id] = (d.tups.take (k + 1)).map Tup.id := by rw [List.take_succ_eq_append_getElem hlt, List.map_append, ht]; rfl
        rw [htk] at hst
        rw [← ht] at HBAD HNXT
        obtain ⟨c0, hc0⟩ : ∃ c, c = cntN ((d.tups.take k).map Tup.id) t.id := ⟨_, rfl⟩
        rw [← hc0] at hst hat hps hcl HCC
        have HCD := Lib.hid (fun (c : Int) (h : (D.put (keyS t.id) (.lit (.int .i64 ((c0 : Int) + 1)))).atKey (keyS t.id) (.lit (.int .i64 0)) = .lit (.int .i64 c)) => (show (c0 : Int) + 1 = c from by have := hat.symm.trans h; injection this with this; injection this))
        have hkb : c0 ≤ 16 := by omega
        have c00 : (0 : Int) ≤ (c0 : Int) := by omega
        have k00 : (0 : Int) ≤ (k : Int) := by omega
        have k01 : (k : Int) < (d.tups.length : Int) := by omega
        obtain ⟨KL, hKL⟩ : ∃ l, l = keyS t.id := ⟨_, rfl⟩
        rw [← hKL] at hst hat hkey HCC HCD
        unfold Tup.val at hTU
        unfold sv at hTU hkey x0 x2 x4
        obtain ⟨I, hI⟩ : ∃ x, x = bs t.id := ⟨_, rfl⟩
        obtain ⟨C, hC⟩ : ∃ x, x = bs t.con := ⟨_, rfl⟩
        obtain ⟨N, hN⟩ : ∃ x, x = bs t.note := ⟨_, rfl⟩
        rw [← hI] at hTU hkey x0
        rw [← hC] at hTU x2
        rw [← hN] at hTU x4
        have HTU := Lib.hid hTU
        have HK := Lib.hid hkey
        have HST := Lib.hid hst
        have hwl := hown.lt
        have hnew := Blk.new wr 39 #[.string I, .bool t.opn, .string C, .int .i64 t.prio, .string N]
        have hownp := own_below hown ((Below.refl wr.heap.size wr).alloc (Nat.le_refl _) (.cells #[.string I, .bool t.opn, .string C, .int .i64 t.prio, .string N] 39)) hwl
        have hBp := HB.out.alloc HB.out.size (.cells #[.string I, .bool t.opn, .string C, .int .i64 t.prio, .string N] 39)
        have bmp := bmd.call ((Below.refl wr.heap.size wr).alloc (Nat.le_refl _) (.cells #[.string I, .bool t.opn, .string C, .int .i64 t.prio, .string N] 39))
        obtain ⟨wp, hwp⟩ : ∃ wp, wp = wr.alloc (.cells #[.string I, .bool t.opn, .string C, .int .i64 t.prio, .string N] 39) := ⟨_, rfl⟩
        rw [← hwp] at hnew hownp hBp bmp
        have HWP := Lib.hid hwp
        have HBP := Lib.hid hBp
        have HNE := Lib.hid (show wr.heap.size ≠ M by omega)
        have HND := Lib.hid (show w.heap.size ≠ M by omega)
        have HLB := Lib.hid (show w.heap.size ≤ M by omega)
        obtain ⟨c3, hrun1, hat3, hwc3⟩ := hownp.lookup_int lawS undM undI (zeroI _) HK.out
        obtain rfl := HCC.out c3 hat3
        clear hat3 hwc3 hc1 hb1 hkey hTU hst hat htk hI hC hN hKL hwp hBp ht hc0
        have hp : (c0 = 0 ∧ ¬ t.id ∈ (d.tups.take k).map Tup.id) ∨ (c0 ≠ 0 ∧ t.id ∈ (d.tups.take k).map Tup.id) := by
          by_cases hm : t.id ∈ (d.tups.take k).map Tup.id
          · exact .inr ⟨by have := hps.2 hm; omega, hm⟩
          · exact .inl ⟨by rcases Nat.eq_zero_or_pos c0 with h | h; exact h; exact absurd (hps.1 h) hm, hm⟩
        clear hps
        have hcs : (tupOK t = false) ∨ (tupOK t = true ∧ c0 ≠ 0 ∧ t.id ∈ (d.tups.take k).map Tup.id) ∨ (tupOK t = true ∧ c0 = 0 ∧ ¬ t.id ∈ (d.tups.take k).map Tup.id) := by
          rcases Bool.eq_false_or_eq_true (tupOK t) with h | h
          · rcases hp with ⟨h1, h2⟩ | ⟨h1, h2⟩
            · exact .inr (.inr ⟨h, h1, h2⟩)
            · exact .inr (.inl ⟨h, h1, h2⟩)
          · exact .inl h
        clear hp
        go_wp2_with (with_reducible refine holdStore 39 rfl ?_)
        unfold Hold

        refine wpList_storeNew (vs := #[.string I, .bool t.opn, .string C, .int .i64 t.prio, .string N]) rfl rfl rfl rfl (by kernel_rfl) (by rfl) (by rfl) ?_
        rw [← HWP.out]
        clear x0 x1 x2 x3 x4 p0 p1 p2
        obtain ⟨r0, r1, r2, r3, r4⟩ := blk_f5T hnew
        obtain ⟨TO, hTO⟩ : ∃ x, x = tupOK t := ⟨_, rfl⟩
        rw [← hTO] at hcs HBAD HNXT HTU
        clear hTO
        rcases hcs with hq | ⟨hq, hz0, hmem⟩ | ⟨hq, hz0, hmem⟩
        all_goals
          rw [hq] at HTU
        · have HN := Lib.hid (HBAD.out (.inl hq))
          have HZ3 := Lib.hid (HF.out (by rw [HZ.out, HN.out]; rfl))
          clear hq
          go_wp2_with (first | (at_mapUpdate; refine wpList_mapUpdate_own _ rfl _ _ _ 42 rfl 9 3 lawS undM _ M k _ rfl hownp (by unfold maxLen; omega) _ _ _ rfl rfl HK.out _ [] (plainElem_int undI (WalkArith.wf_i64 (by omega))) ?_; intro w3 hown3 hgrow3; have bn3 := blk_grown hnew hgrow3 HNE.out; have bd3 := blk_grown bmp hgrow3 HND.out; have hB3 := HBP.out.grown hgrow3 HBP.out.size (fun j hj => by cases hj; exact HLB.out); clear r0 r1 r2 r3 r4; obtain ⟨r0, r1, r2, r3, r4⟩ := blk_f5T bn3; have hlt3 := hown3.lt) | (go_at_call 17; refine (HTU.out _).mono ?_; rintro e w4 ⟨rfl, hC4⟩; have hown4 := own_below hown3 hC4 hlt3; have bn4 := bn3.call hC4; have bd4 := bd3.call hC4; have hB4 := hB3.trans (hC4.mono hB3.size); clear r0 r1 r2 r3 r4; obtain ⟨r0, r1, r2, r3, r4⟩ := blk_f5T bn4; obtain ⟨c4, hrun4, hat4, hwc4⟩ := hown4.lookup_int lawS undM undI (zeroI _) HK.out; obtain rfl := HCD.out c4 hat4; clear hat4 hwc4))
          go_ret
          exact ⟨by rw [HZ3.out]; rfl, hB4⟩
        · have HN := Lib.hid (HBAD.out (.inr hmem))
          have HZ3 := Lib.hid (HF.out (by rw [HZ.out, HN.out]; rfl))
          have hc1 : (1 : Int) < (c0 : Int) + 1 := by omega
          clear hq hmem hz0
          go_wp2_with (first | (at_mapUpdate; refine wpList_mapUpdate_own _ rfl _ _ _ 42 rfl 9 3 lawS undM _ M k _ rfl hownp (by unfold maxLen; omega) _ _ _ rfl rfl HK.out _ [] (plainElem_int undI (WalkArith.wf_i64 (by omega))) ?_; intro w3 hown3 hgrow3; have bn3 := blk_grown hnew hgrow3 HNE.out; have bd3 := blk_grown bmp hgrow3 HND.out; have hB3 := HBP.out.grown hgrow3 HBP.out.size (fun j hj => by cases hj; exact HLB.out); clear r0 r1 r2 r3 r4; obtain ⟨r0, r1, r2, r3, r4⟩ := blk_f5T bn3; have hlt3 := hown3.lt) | (go_at_call 17; refine (HTU.out _).mono ?_; rintro e w4 ⟨rfl, hC4⟩; have hown4 := own_below hown3 hC4 hlt3; have bn4 := bn3.call hC4; have bd4 := bd3.call hC4; have hB4 := hB3.trans (hC4.mono hB3.size); clear r0 r1 r2 r3 r4; obtain ⟨r0, r1, r2, r3, r4⟩ := blk_f5T bn4; obtain ⟨c4, hrun4, hat4, hwc4⟩ := hown4.lookup_int lawS undM undI (zeroI _) HK.out; obtain rfl := HCD.out c4 hat4; clear hat4 hwc4))
          go_ret
          exact ⟨by rw [HZ3.out]; rfl, hB4⟩
        · have HN := Lib.hid (HNXT.out hq hmem)
          have hc1 : ¬ (1 : Int) < (c0 : Int) + 1 := by omega
          clear hq hmem hz0
          go_wp2_with (first | (at_mapUpdate; refine wpList_mapUpdate_own _ rfl _ _ _ 42 rfl 9 3 lawS undM _ M k _ rfl hownp (by unfold maxLen; omega) _ _ _ rfl rfl HK.out _ [] (plainElem_int undI (WalkArith.wf_i64 (by omega))) ?_; intro w3 hown3 hgrow3; have bn3 := blk_grown hnew hgrow3 HNE.out; have bd3 := blk_grown bmp hgrow3 HND.out; have hB3 := HBP.out.grown hgrow3 HBP.out.size (fun j hj => by cases hj; exact HLB.out); clear r0 r1 r2 r3 r4; obtain ⟨r0, r1, r2, r3, r4⟩ := blk_f5T bn3; have hlt3 := hown3.lt) | (go_at_call 17; refine (HTU.out _).mono ?_; rintro e w4 ⟨rfl, hC4⟩; have hown4 := own_below hown3 hC4 hlt3; have bn4 := bn3.call hC4; have bd4 := bd3.call hC4; have hB4 := hB3.trans (hC4.mono hB3.size); clear r0 r1 r2 r3 r4; obtain ⟨r0, r1, r2, r3, r4⟩ := blk_f5T bn4; obtain ⟨c4, hrun4, hat4, hwc4⟩ := hown4.lookup_int lawS undM undI (zeroI _) HK.out; obtain rfl := HCD.out c4 hat4; clear hat4 hwc4))
          go_roundw
          case rel => exact ⟨k + 1, _, by omega, by go_num, hown4, HST, Lib.hid hB4, bd4, HN⟩
          case measure => simp [intOf]; omega
      · have HE := Lib.hid (tups_end d.tups k (by omega) HP.out)
        have HZ2 := Lib.hid (show OK = d.notes.all noteOK by rw [HZ.out, HE.out]; rfl)
        clear hown HP HC
        go_wp2
        focus
          clear hlt
          go_loopw [57] (fun i wx => ∃ j : Nat, j ≤ d.notes.length ∧ i = .int .i64 j ∧ Hid (Below w.heap.size w wx) ∧ Hid ((d.notes.take j).all noteOK = true)) (fun i _ => d.notes.length - (intOf i).toNat)
          case atStart => exact ⟨0, Nat.zero_le _, rfl, HB, Lib.hid rfl⟩
          case round =>
            clear p0 p1 p2
            obtain ⟨j, hj, rfl, HBx, HJ⟩ := hrel
            by_cases hlj : j < d.notes.length
            · obtain ⟨b, off, rfl, hb1, hc1⟩ := C2.out (by omega)
              have x0 : wr.cell? ⟨b, off + j, none⟩ = some (sv d.notes[j]) := by rw [HBx.out.cell (p := ⟨b, off + j, none⟩) hb1]; exact hc1 j hlj
              obtain ⟨q, hq⟩ : ∃ q, q = d.notes[j] := ⟨_, rfl⟩
              have hql : q.length ≤ 1048576 := by rw [hq]; exact D3.out _ (List.getElem_mem hlj)
              have HBAD := Lib.hid (fun h => notes_bad d.notes j hlj h)
              have HNXT := Lib.hid (fun h => notes_next d.notes j hlj HJ.out h)
              rw [← hq] at x0 HBAD HNXT
              have HTX := Lib.hid (fun wx => pText_c (bs q) (by rw [size_bs]; omega) wx)
              rw [us_bs] at HTX
              have hcs : (q = [] ∧ noteOK q = false) ∨ ((bs q).size ≠ 0 ∧ textOK q = false ∧ noteOK q = false) ∨ ((bs q).size ≠ 0 ∧ textOK q = true ∧ noteOK q = true) := by
                unfold noteOK
                by_cases h0 : q = []
                · exact .inl ⟨h0, by rw [h0]; rfl⟩
                · have h1 : (bs q).size ≠ 0 := by rw [size_bs]; intro e; exact h0 (List.eq_nil_of_length_eq_zero e)
                  have h2 : (q == []) = false := by simpa using h0
                  rw [h2]
                  cases textOK q
                  · exact .inr (.inl ⟨h1, rfl, rfl⟩)
                  · exact .inr (.inr ⟨h1, rfl, rfl⟩)
              clear hq hc1 hb1
              rcases hcs with ⟨rfl, hz⟩ | ⟨e0, hq, hz⟩ | ⟨e0, hq, hz⟩
              · have HZ3 := Lib.hid (HF.out (by rw [HZ2.out, HBAD.out hz]))
                rw [show sv [] = .string ⟨#[]⟩ from rfl] at x0
                clear hz
                go_wp2
                go_ret
                exact ⟨by rw [HZ3.out]; rfl, HBx.out⟩
              · have HZ3 := Lib.hid (HF.out (by rw [HZ2.out, HBAD.out hz]))
                rw [hq] at HTX
                unfold sv at x0
                obtain ⟨Q, hQ⟩ : ∃ x, x = bs q := ⟨_, rfl⟩
                rw [← hQ] at HTX x0 e0
                have e1 := isEmpty_f e0
                have e2 := ne_empty e0
                clear hz hq hQ e0
                go_wp2_with (go_at_call 18; refine (HTX.out _).mono ?_; rintro e w5 ⟨rfl, hC5⟩; have hB5 := HBx.out.trans (hC5.mono HBx.out.size))
                go_ret
                exact ⟨by rw [HZ3.out]; rfl, hB5⟩
              · have HN := Lib.hid (HNXT.out hz)
                rw [hq] at HTX
                unfold sv at x0
                obtain ⟨Q, hQ⟩ : ∃ x, x = bs q := ⟨_, rfl⟩
                rw [← hQ] at HTX x0 e0
                have e1 := isEmpty_f e0
                have e2 := ne_empty e0
                clear hz hq hQ e0
                go_wp2_with (go_at_call 18; refine (HTX.out _).mono ?_; rintro e w5 ⟨rfl, hC5⟩; have hB5 := HBx.out.trans (hC5.mono HBx.out.size))
                go_roundw
                case rel => exact ⟨j + 1, by omega, by go_num, Lib.hid hB5, HN⟩
                case measure => simp [intOf]; omega
            · have HZ3 := Lib.hid (HT.out (by rw [HZ2.out, notes_end d.notes j (by omega) HJ.out]))
              go_wp2
              go_ret
              exact ⟨by rw [HZ3.out]; rfl, HBx.out⟩
  all_goals
    have HZ := Lib.hid (HF.out hz)
    clear hz
    go_enter Tryd.func11, Tryd.ntmps11
    go_wp2_with (go_at_call 16; (try rw [← HW0.out]); refine (HH.out _ hM0.out).mono ?_; rintro e w1 ⟨x, n, rfl, hn, hC1⟩; have bm1 := bm0.call hC1; have hB1 := hB0.trans (hC1.mono hB0.size); clear p0 p1 p2; obtain ⟨p0, p1, p2⟩ := blk_f3T bm1; have hnn : (n != 0) = !(n == 0) := rfl; rw [hn] at hnn; clear hn)
    go_ret
    exact ⟨by rw [HZ.out]; rfl, hB1⟩

end Go.Proofs.YtbljmjbialinkaaDoor
