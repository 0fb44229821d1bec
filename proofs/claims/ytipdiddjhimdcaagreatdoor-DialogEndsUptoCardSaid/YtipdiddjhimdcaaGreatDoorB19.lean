/-
  Packed: XTk, XAw18, XSml.
-/
import Derived.Test.YtipdiddjhimdcaaGreatDoorB16
import Derived.Test.YtipdiddjhimdcaaGreatDoorB17
import Derived.Test.YtipdiddjhimdcaaGreatDoorB18
namespace Go.Proofs.YtipdiddjhimdcaaGreatDoor
set_option linter.unusedSimpArgs false
set_option linter.unusedVariables false
open Go.RowKit Go.Sort


theorem all_set {vs : Array Value} {i : Nat} {x : Value} (h : (vs.toList.all fun v => v.oneCell') = true) (hx : x.oneCell' = true) : ((vs.setIfInBounds i x).toList.all fun v => v.oneCell') = true := by
  rw [List.all_eq_true] at h ⊢
  intro v hv
  rw [Array.toList_setIfInBounds] at hv
  rcases List.mem_or_eq_of_mem_set hv with g | rfl
  · exact h v g
  · exact hx
theorem all_setAll {vs : Array Value} (h : (vs.toList.all fun v => v.oneCell') = true) (i : Nat) {l : List Value} (hl : (l.all fun v => v.oneCell') = true) : ((setAll vs i l).toList.all fun v => v.oneCell') = true := by
  rw [List.all_eq_true] at h hl ⊢
  intro v hv
  rcases mem_setAll _ _ _ _ hv with g | g
  · exact h v g
  · exact hl v g
theorem off6 {g : Nat} {a b c : ByteArray} {n : Int} {u v : Value} (h1 : Off g u) (h2 : Off g v) : ∀ x ∈ [.string a, .string b, .string c, .int .i64 n, u, v], Off g x := by
  intro x hx
  simp only [List.mem_cons, List.not_mem_nil, or_false] at hx
  rcases hx with rfl | rfl | rfl | rfl | rfl | rfl
  · exact Off.str g _
  · exact Off.str g _
  · exact Off.str g _
  · exact Off.int g _
  · exact h1
  · exact h2
theorem takeS_cases (d : Dlg) (r : Rq) :
    (matchD d r = false ∧ takeS d r = (d, 6)) ∨ (matchD d r = true ∧ r.seq ≤ d.lin ∧ takeS d r = (d, 180)) ∨
    (matchD d r = true ∧ ¬ r.seq ≤ d.lin ∧ r.contact.length ≠ 1 ∧ takeS d r = (⟨d.call, d.loc, d.rem, d.tgt, d.routes, r.seq, d.lout⟩, 0)) ∨
    (matchD d r = true ∧ ¬ r.seq ≤ d.lin ∧ ∃ c, r.contact = [c] ∧ takeS d r = (⟨d.call, d.loc, d.rem, c.uri, d.routes, r.seq, d.lout⟩, 0)) := by
  unfold takeS
  cases hm : matchD d r
  · exact .inl ⟨rfl, by rw [if_pos rfl]⟩
  refine .inr ?_
  rw [if_neg (by decide)]
  by_cases hs : r.seq ≤ d.lin
  · exact .inl ⟨rfl, hs, by rw [if_pos hs]⟩
  refine .inr ?_
  rw [if_neg hs]
  unfold takeD
  match hc : r.contact with
  | [] => exact .inl ⟨rfl, hs, by simp, rfl⟩
  | [c] => exact .inr ⟨rfl, hs, c, rfl, rfl⟩
  | a :: b :: l => exact .inl ⟨rfl, hs, by simp, rfl⟩

set_option maxRecDepth 100000 in
set_option maxHeartbeats 6400000 in
theorem take_c (vs : Array Value) (vr : Value) (d : Dlg) (r : Rq) (w : World) (hd : RDlg w (.agg vs) d) (hr : RReq w vr r) (b1 : ∀ p ∈ d.loc.ps, p.name.length ≤ 4294967280) (b2 : ∀ p ∈ d.rem.ps, p.name.length ≤ 4294967280) (b3 : ∀ c ∈ r.contact, c.uri.ps.length ≤ 1099511627776 ∧ c.uri.hs.length ≤ 1099511627776) :
    Calls Tryz.prog 22 #[.agg vs, vr] w fun e w' => ∃ xs : Array Value, e = .returned (.tuple #[.agg xs, .int .i64 (takeS d r).2]) ∧ RDlg w' (.agg xs) (takeS d r).1 ∧ (∀ g, g < w.heap.size → DOff g vs → DOff g xs) ∧ Below w.heap.size w w' := by
  obtain ⟨vs', ev, s26, one, v24, _, hd⟩ := hd.row
  injection ev with ev
  subst ev
  obtain ⟨rs, rfl, s38, _, _, _, r28, ⟨ca, cc, r32, ha⟩, hr⟩ := hr.row
  have hcm : r.contact.length ≤ 2 ^ 63 - 1 := by obtain ⟨_, _, _, h, _⟩ := ha.form; exact h
  obtain ⟨Z, hZl⟩ : ∃ Z : Array Value, Z = #[(.string ⟨#[]⟩), (.string ⟨#[]⟩), (.string ⟨#[]⟩), (.string ⟨#[]⟩), (.string ⟨#[]⟩), (.int .i64 0), (.slice none 0 0), (.slice none 0 0), (.slice none 0 0), (.string ⟨#[]⟩), (.string ⟨#[]⟩), (.string ⟨#[]⟩), (.string ⟨#[]⟩), (.int .i64 0), (.slice none 0 0), (.slice none 0 0), (.slice none 0 0), (.string ⟨#[]⟩), (.string ⟨#[]⟩), (.string ⟨#[]⟩), (.int .i64 0), (.slice none 0 0), (.slice none 0 0), (.slice none 0 0), (.int .i64 0), (.int .i64 0)] := ⟨_, rfl⟩
  have z26 : Z.size = 26 := by rw [hZl]; rfl
  have hB0 : Below w.heap.size w (((w.alloc (.cells vs 34)).alloc (.cells rs 32)).alloc (.cells #[(.string ⟨#[]⟩), (.string ⟨#[]⟩), (.string ⟨#[]⟩), (.string ⟨#[]⟩), (.string ⟨#[]⟩), (.int .i64 0), (.slice none 0 0), (.slice none 0 0), (.slice none 0 0), (.string ⟨#[]⟩), (.string ⟨#[]⟩), (.string ⟨#[]⟩), (.string ⟨#[]⟩), (.int .i64 0), (.slice none 0 0), (.slice none 0 0), (.slice none 0 0), (.string ⟨#[]⟩), (.string ⟨#[]⟩), (.string ⟨#[]⟩), (.int .i64 0), (.slice none 0 0), (.slice none 0 0), (.slice none 0 0), (.int .i64 0), (.int .i64 0)] 34)) := (((Below.refl _ _).alloc (Nat.le_refl _) _).alloc (by rw [World.size_alloc]; omega) _).alloc (by rw [World.size_alloc, World.size_alloc]; omega) _
  have bd0 : Blk (((w.alloc (.cells vs 34)).alloc (.cells rs 32)).alloc (.cells #[(.string ⟨#[]⟩), (.string ⟨#[]⟩), (.string ⟨#[]⟩), (.string ⟨#[]⟩), (.string ⟨#[]⟩), (.int .i64 0), (.slice none 0 0), (.slice none 0 0), (.slice none 0 0), (.string ⟨#[]⟩), (.string ⟨#[]⟩), (.string ⟨#[]⟩), (.string ⟨#[]⟩), (.int .i64 0), (.slice none 0 0), (.slice none 0 0), (.slice none 0 0), (.string ⟨#[]⟩), (.string ⟨#[]⟩), (.string ⟨#[]⟩), (.int .i64 0), (.slice none 0 0), (.slice none 0 0), (.slice none 0 0), (.int .i64 0), (.int .i64 0)] 34)) (w.heap.size) 34 vs := ((Blk.new w 34 vs).alloc _).alloc _
  have br0 : Blk (((w.alloc (.cells vs 34)).alloc (.cells rs 32)).alloc (.cells #[(.string ⟨#[]⟩), (.string ⟨#[]⟩), (.string ⟨#[]⟩), (.string ⟨#[]⟩), (.string ⟨#[]⟩), (.int .i64 0), (.slice none 0 0), (.slice none 0 0), (.slice none 0 0), (.string ⟨#[]⟩), (.string ⟨#[]⟩), (.string ⟨#[]⟩), (.string ⟨#[]⟩), (.int .i64 0), (.slice none 0 0), (.slice none 0 0), (.slice none 0 0), (.string ⟨#[]⟩), (.string ⟨#[]⟩), (.string ⟨#[]⟩), (.int .i64 0), (.slice none 0 0), (.slice none 0 0), (.slice none 0 0), (.int .i64 0), (.int .i64 0)] 34)) (w.heap.size + 1) 32 rs := by
    have := (Blk.new (w.alloc (.cells vs 34)) 32 rs).alloc (.cells #[(.string ⟨#[]⟩), (.string ⟨#[]⟩), (.string ⟨#[]⟩), (.string ⟨#[]⟩), (.string ⟨#[]⟩), (.int .i64 0), (.slice none 0 0), (.slice none 0 0), (.slice none 0 0), (.string ⟨#[]⟩), (.string ⟨#[]⟩), (.string ⟨#[]⟩), (.string ⟨#[]⟩), (.int .i64 0), (.slice none 0 0), (.slice none 0 0), (.slice none 0 0), (.string ⟨#[]⟩), (.string ⟨#[]⟩), (.string ⟨#[]⟩), (.int .i64 0), (.slice none 0 0), (.slice none 0 0), (.slice none 0 0), (.int .i64 0), (.int .i64 0)] 34)
    rwa [World.size_alloc] at this
  have bz0 : Blk (((w.alloc (.cells vs 34)).alloc (.cells rs 32)).alloc (.cells #[(.string ⟨#[]⟩), (.string ⟨#[]⟩), (.string ⟨#[]⟩), (.string ⟨#[]⟩), (.string ⟨#[]⟩), (.int .i64 0), (.slice none 0 0), (.slice none 0 0), (.slice none 0 0), (.string ⟨#[]⟩), (.string ⟨#[]⟩), (.string ⟨#[]⟩), (.string ⟨#[]⟩), (.int .i64 0), (.slice none 0 0), (.slice none 0 0), (.slice none 0 0), (.string ⟨#[]⟩), (.string ⟨#[]⟩), (.string ⟨#[]⟩), (.int .i64 0), (.slice none 0 0), (.slice none 0 0), (.slice none 0 0), (.int .i64 0), (.int .i64 0)] 34)) (w.heap.size + 1 + 1) 34 Z := by
    have := Blk.new ((w.alloc (.cells vs 34)).alloc (.cells rs 32)) 34 #[(.string ⟨#[]⟩), (.string ⟨#[]⟩), (.string ⟨#[]⟩), (.string ⟨#[]⟩), (.string ⟨#[]⟩), (.int .i64 0), (.slice none 0 0), (.slice none 0 0), (.slice none 0 0), (.string ⟨#[]⟩), (.string ⟨#[]⟩), (.string ⟨#[]⟩), (.string ⟨#[]⟩), (.int .i64 0), (.slice none 0 0), (.slice none 0 0), (.slice none 0 0), (.string ⟨#[]⟩), (.string ⟨#[]⟩), (.string ⟨#[]⟩), (.int .i64 0), (.slice none 0 0), (.slice none 0 0), (.slice none 0 0), (.int .i64 0), (.int .i64 0)]
    rw [World.size_alloc, World.size_alloc] at this
    rw [hZl]; exact this
  have hs3 : (((w.alloc (.cells vs 34)).alloc (.cells rs 32)).alloc (.cells #[(.string ⟨#[]⟩), (.string ⟨#[]⟩), (.string ⟨#[]⟩), (.string ⟨#[]⟩), (.string ⟨#[]⟩), (.int .i64 0), (.slice none 0 0), (.slice none 0 0), (.slice none 0 0), (.string ⟨#[]⟩), (.string ⟨#[]⟩), (.string ⟨#[]⟩), (.string ⟨#[]⟩), (.int .i64 0), (.slice none 0 0), (.slice none 0 0), (.slice none 0 0), (.string ⟨#[]⟩), (.string ⟨#[]⟩), (.string ⟨#[]⟩), (.int .i64 0), (.slice none 0 0), (.slice none 0 0), (.slice none 0 0), (.int .i64 0), (.int .i64 0)] 34)).heap.size = w.heap.size + 3 := by rw [World.size_alloc, World.size_alloc, World.size_alloc]
  obtain ⟨w0, hw0⟩ : ∃ w0, w0 = (((w.alloc (.cells vs 34)).alloc (.cells rs 32)).alloc (.cells #[(.string ⟨#[]⟩), (.string ⟨#[]⟩), (.string ⟨#[]⟩), (.string ⟨#[]⟩), (.string ⟨#[]⟩), (.int .i64 0), (.slice none 0 0), (.slice none 0 0), (.slice none 0 0), (.string ⟨#[]⟩), (.string ⟨#[]⟩), (.string ⟨#[]⟩), (.string ⟨#[]⟩), (.int .i64 0), (.slice none 0 0), (.slice none 0 0), (.slice none 0 0), (.string ⟨#[]⟩), (.string ⟨#[]⟩), (.string ⟨#[]⟩), (.int .i64 0), (.slice none 0 0), (.slice none 0 0), (.slice none 0 0), (.int .i64 0), (.int .i64 0)] 34)) := ⟨_, rfl⟩
  rw [← hw0] at hB0 bd0 br0 bz0 hs3
  have HW0 := Lib.hid hw0
  have HS3 := Lib.hid hs3
  have HM := Lib.hid (match_c _ _ d r w0 (hd.below hB0 (Nat.le_refl _)) (hr.below hB0 (Nat.le_refl _)) b1 b2)
  have HX := Lib.hid (fun (wx : World) (h : Below w0.heap.size w0 wx) => (show Blk wx (w.heap.size) 34 vs ∧ Blk wx (w.heap.size + 1) 32 rs ∧ Blk wx (w.heap.size + 1 + 1) 34 Z ∧ Below w.heap.size w wx from
    ⟨bd0.call h, br0.call h, bz0.call h, hB0.trans (h.mono hB0.size)⟩))
  have HA := Lib.hid ha
  have HD := Lib.hid hd
  have hcs := takeS_cases d r
  have hZ : Below w0.heap.size w0 w0 := Below.refl _ _
  obtain ⟨bd, br, bz, hBB⟩ := HX.out _ hZ
  clear hw0 hB0 bd0 br0 bz0 hs3 ha hd hr b1 b2 hZl
  rcases hcs with ⟨hm, hT⟩ | ⟨hm, hs, hT⟩ | ⟨hm, hs, hl, hT⟩ | ⟨hm, hs, c, hc, hT⟩
  · rw [hm] at HM
    rw [hT]
    dsimp only
    clear hm hT
    go_enter Tryz.func22, Tryz.ntmps22
    go_upto_region 1 with fail
    rw [← HW0.out]
    refine wp_region_lit ?_
    refine wpList_loadB (vs := vs) rfl rfl rfl Tryz.underlying34 (by rw [s26]; rfl) bd (whole _) ?_
    refine wpList_loadB (vs := rs) rfl rfl rfl Tryz.underlying32 (by rw [s38]; rfl) br (whole _) ?_
    go_upto_region 2 with (go_at_call 24; refine HM.out.mono ?_; rintro e w1 ⟨rfl, hC1⟩; have hZ := hC1; clear bd br bz hBB; obtain ⟨bd, br, bz, hBB⟩ := HX.out _ hZ)
    refine wp_region_lit ?_
    refine wpList_loadB (vs := vs) rfl rfl rfl Tryz.underlying34 (by rw [s26]; rfl) bd (whole _) ?_
    refine wpList_storeB (vs := vs) (cs' := vs) rfl rfl rfl rfl (by rw [s26]; rfl) bz (by rw [s26, z26]; omega) one (setAll_whole (by rw [z26, s26])) ?_
    intro w9 bz9 hfar9 hsz9 hbel9
    go_wp2
    refine bodyPost_ret (results_ct rfl rfl rfl Tryz.underlying34 (by rw [s26]; rfl) bz9) rfl ?_
    have HBf := hBB.trans (hbel9 _ (by omega))
    exact ⟨_, rfl, HD.out.below HBf (Nat.le_refl _), fun _ _ h => h, HBf⟩
  · rw [hm] at HM
    rw [hT]
    dsimp only
    clear hm hT
    go_enter Tryz.func22, Tryz.ntmps22
    go_upto_region 1 with fail
    rw [← HW0.out]
    refine wp_region_lit ?_
    refine wpList_loadB (vs := vs) rfl rfl rfl Tryz.underlying34 (by rw [s26]; rfl) bd (whole _) ?_
    refine wpList_loadB (vs := rs) rfl rfl rfl Tryz.underlying32 (by rw [s38]; rfl) br (whole _) ?_
    go_upto_region 3 with (go_at_call 24; refine HM.out.mono ?_; rintro e w1 ⟨rfl, hC1⟩; have hZ := hC1; clear bd br bz hBB; obtain ⟨bd, br, bz, hBB⟩ := HX.out _ hZ)
    have p24 := (boxedCell bd 24).trans v24; have f24 := boxedFree bd 24; have x28 := (boxedCell br 28).trans r28; have x32 := (boxedCell br 32).trans r32
    go_upto_region 4 with fail
    refine wp_region_lit ?_
    refine wpList_loadB (vs := vs) rfl rfl rfl Tryz.underlying34 (by rw [s26]; rfl) bd (whole _) ?_
    refine wpList_storeB (vs := vs) (cs' := vs) rfl rfl rfl rfl (by rw [s26]; rfl) bz (by rw [s26, z26]; omega) one (setAll_whole (by rw [z26, s26])) ?_
    intro w9 bz9 hfar9 hsz9 hbel9
    go_wp2
    refine bodyPost_ret (results_ct rfl rfl rfl Tryz.underlying34 (by rw [s26]; rfl) bz9) rfl ?_
    have HBf := hBB.trans (hbel9 _ (by omega))
    exact ⟨_, rfl, HD.out.below HBf (Nat.le_refl _), fun _ _ h => h, HBf⟩
  · rw [hm] at HM
    rw [hT]
    dsimp only
    have tl : ((r.contact.length : Int) == 1) = false := by simp; omega
    clear hm hT hl
    go_enter Tryz.func22, Tryz.ntmps22
    go_upto_region 1 with fail
    rw [← HW0.out]
    refine wp_region_lit ?_
    refine wpList_loadB (vs := vs) rfl rfl rfl Tryz.underlying34 (by rw [s26]; rfl) bd (whole _) ?_
    refine wpList_loadB (vs := rs) rfl rfl rfl Tryz.underlying32 (by rw [s38]; rfl) br (whole _) ?_
    go_upto_region 3 with (go_at_call 24; refine HM.out.mono ?_; rintro e w1 ⟨rfl, hC1⟩; have hZ := hC1; clear bd br bz hBB; obtain ⟨bd, br, bz, hBB⟩ := HX.out _ hZ)
    have p24 := (boxedCell bd 24).trans v24; have f24 := boxedFree bd 24; have x28 := (boxedCell br 28).trans r28; have x32 := (boxedCell br 32).trans r32
    have hB2 := hBB.setCell (p := ⟨w.heap.size, 24, none⟩) (Nat.le_refl _) (.int .i64 r.seq)
    have bd2 : Blk _ (w.heap.size) 34 (vs.setIfInBounds 24 (.int .i64 r.seq)) := bd.set_ 24 (.int .i64 r.seq)
    have br2 := br.far (p := ⟨w.heap.size, 24, none⟩) (show w.heap.size + 1 ≠ w.heap.size by omega) (.int .i64 r.seq)
    have bz2 := bz.far (p := ⟨w.heap.size, 24, none⟩) (show w.heap.size + 1 + 1 ≠ w.heap.size by omega) (.int .i64 r.seq)
    have HD2 := Lib.hid (HD.out.setLin r.seq)
    have one2 : ((vs.setIfInBounds 24 (.int .i64 r.seq)).toList.all fun v => v.oneCell') = true := all_set one rfl
    have s26' : (vs.setIfInBounds 24 (.int .i64 r.seq)).size = 26 := by rw [Array.size_setIfInBounds, s26]
    have HO := Lib.hid (fun g (h : DOff g vs) => h.set 24 (Off.int g r.seq))
    obtain ⟨ws, hws⟩ : ∃ x, x = vs.setIfInBounds 24 (.int .i64 r.seq) := ⟨_, rfl⟩
    rw [← hws] at bd2 HD2 one2 s26' HO
    obtain ⟨w2, hw2⟩ : ∃ x, x = (w1.setCell ⟨w.heap.size, 24, none⟩ (.int .i64 r.seq)) := ⟨_, rfl⟩
    rw [← hw2] at hB2 bd2 br2 bz2
    go_upto_region 6 with fail
    rw [← hw2]
    clear hw2
    have x32 := (boxedCell br2 32).trans r32
    go_upto_region 8 with fail
    refine wp_region_lit ?_
    refine wpList_loadB (vs := ws) rfl rfl rfl Tryz.underlying34 (by rw [s26']; rfl) bd2 (whole _) ?_
    refine wpList_storeB (vs := ws) (cs' := ws) rfl rfl rfl rfl (by rw [s26']; rfl) bz2 (by rw [s26', z26]; omega) one2 (setAll_whole (by rw [z26, s26'])) ?_
    intro w9 bz9 hfar9 hsz9 hbel9
    go_wp2
    refine bodyPost_ret (results_ct rfl rfl rfl Tryz.underlying34 (by rw [s26']; rfl) bz9) rfl ?_
    have HBf := hB2.trans (hbel9 _ (by omega))
    exact ⟨_, rfl, HD2.out.below HBf (Nat.le_refl _), fun g _ h => HO.out g h, HBf⟩
  · rw [hm] at HM
    rw [hT]
    dsimp only
    have b3' := b3 c (by rw [hc]; exact List.mem_singleton.2 rfl)
    have tl : r.contact.length = 1 := by rw [hc]; rfl
    rw [hc] at HA
    rw [tl] at r32
    clear hm hT b3
    go_enter Tryz.func22, Tryz.ntmps22
    go_upto_region 1 with fail
    rw [← HW0.out]
    refine wp_region_lit ?_
    refine wpList_loadB (vs := vs) rfl rfl rfl Tryz.underlying34 (by rw [s26]; rfl) bd (whole _) ?_
    refine wpList_loadB (vs := rs) rfl rfl rfl Tryz.underlying32 (by rw [s38]; rfl) br (whole _) ?_
    go_upto_region 3 with (go_at_call 24; refine HM.out.mono ?_; rintro e w1 ⟨rfl, hC1⟩; have hZ := hC1; clear bd br bz hBB; obtain ⟨bd, br, bz, hBB⟩ := HX.out _ hZ)
    have p24 := (boxedCell bd 24).trans v24; have f24 := boxedFree bd 24; have x28 := (boxedCell br 28).trans r28; have x32 := (boxedCell br 32).trans r32
    have hB2 := hBB.setCell (p := ⟨w.heap.size, 24, none⟩) (Nat.le_refl _) (.int .i64 r.seq)
    have bd2 : Blk _ (w.heap.size) 34 (vs.setIfInBounds 24 (.int .i64 r.seq)) := bd.set_ 24 (.int .i64 r.seq)
    have br2 := br.far (p := ⟨w.heap.size, 24, none⟩) (show w.heap.size + 1 ≠ w.heap.size by omega) (.int .i64 r.seq)
    have bz2 := bz.far (p := ⟨w.heap.size, 24, none⟩) (show w.heap.size + 1 + 1 ≠ w.heap.size by omega) (.int .i64 r.seq)
    have HD2 := Lib.hid (HD.out.setLin r.seq)
    have one2 : ((vs.setIfInBounds 24 (.int .i64 r.seq)).toList.all fun v => v.oneCell') = true := all_set one rfl
    have s26' : (vs.setIfInBounds 24 (.int .i64 r.seq)).size = 26 := by rw [Array.size_setIfInBounds, s26]
    have HO := Lib.hid (fun g (h : DOff g vs) => h.set 24 (Off.int g r.seq))
    obtain ⟨ws, hws⟩ : ∃ x, x = vs.setIfInBounds 24 (.int .i64 r.seq) := ⟨_, rfl⟩
    rw [← hws] at bd2 HD2 one2 s26' HO
    obtain ⟨w2, hw2⟩ : ∃ x, x = (w1.setCell ⟨w.heap.size, 24, none⟩ (.int .i64 r.seq)) := ⟨_, rfl⟩
    rw [← hw2] at hB2 bd2 br2 bz2
    go_upto_region 6 with fail
    rw [← hw2]
    clear hw2
    have x32 := (boxedCell br2 32).trans r32
    obtain ⟨ao2, cap2, e2, _, c2⟩ := HA.out.form
    obtain ⟨b, off, eb, hbl, hcc⟩ := c2 (by simp)
    obtain ⟨_, k1, k2, k3, k4, s1, s2, _, k5, k6, _, q1, q2, _⟩ := hcc 0 (by simp)
    simp only [Nat.zero_mul, Nat.add_zero, List.getElem_cons_zero] at k1 k2 k3 k4 k5 k6 q1 q2
    have hcw : ∀ o, w2.cell? ⟨b, o, none⟩ = w.cell? ⟨b, o, none⟩ := fun o => World.cell?_of_block (w := w) (a := ⟨b, o, none⟩) (hB2.block b hbl)
    rw [← hcw] at k1 k2 k3 k4 k5 k6
    injection e2 with e2 _ _
    rw [eb] at e2
    subst e2
    clear eb hcc c2 hcw
    obtain ⟨n1, d1, rfl⟩ := q1.form'
    obtain ⟨n2, d2, rfl⟩ := q2.form'
    have Q1 := Lib.hid q1
    have Q2 := Lib.hid q2
    clear q1 q2
    unfold sv at k1 k2 k3
    have HB2 := Lib.hid hB2
    have hlt2 := bz2.lt
    go_wp2_with (first | (go_at_call 34; refine (cloned_c _ _ _ _ _ _ c.uri.ps c.uri.hs w2 (Q1.out.below HB2.out (Nat.le_refl _)) (Q2.out.below HB2.out (Nat.le_refl _)) b3'.1 b3'.2).mono ?_; rintro e w3 ⟨v1, v2, rfl, R1, R2, hF1, hF2, hC3⟩; obtain ⟨a1, g1, rfl⟩ := R1.form'; obtain ⟨a2, g2, rfl⟩ := R2.form'; replace bd2 := bd2.call hC3; replace bz2 := bz2.call hC3; replace hB2 := hB2.trans (hC3.mono hB2.size)) | (with_reducible refine holdStore 24 rfl ?_))
    unfold Hold
    refine wpList_storeB (vs := #[.string (bs c.uri.scheme), .string (bs c.uri.user), .string (bs c.uri.host), .int .i64 c.uri.port, .slice a1 c.uri.ps.length g1, .slice a2 c.uri.hs.length g2]) rfl rfl rfl rfl (by kernel_rfl) bd2 (by rw [s26']; exact Nat.le_of_ble_eq_true rfl) rfl rfl ?_
    intro w8 bd8 hfar8 hsz8 hbel8
    have bz8 : Blk w8 (w.heap.size + 1 + 1) 34 Z := (hfar8 _ (by omega)).trans bz2
    have sx : (setAll ws 17 #[.string (bs c.uri.scheme), .string (bs c.uri.user), .string (bs c.uri.host), .int .i64 c.uri.port, .slice a1 c.uri.ps.length g1, .slice a2 c.uri.hs.length g2].toList).size = 26 := by rw [setAll_size, s26']
    have onex : ((setAll ws 17 #[.string (bs c.uri.scheme), .string (bs c.uri.user), .string (bs c.uri.host), .int .i64 c.uri.port, .slice a1 c.uri.ps.length g1, .slice a2 c.uri.hs.length g2].toList).toList.all fun v => v.oneCell') = true := all_setAll one2 17 rfl
    have HOX := Lib.hid (fun g (h : DOff g vs) (h1 : Off g (Value.slice a1 c.uri.ps.length g1)) (h2 : Off g (Value.slice a2 c.uri.hs.length g2)) => (HO.out g h).setAll 17 (l := #[.string (bs c.uri.scheme), .string (bs c.uri.user), .string (bs c.uri.host), .int .i64 c.uri.port, .slice a1 c.uri.ps.length g1, .slice a2 c.uri.hs.length g2].toList) (off6 h1 h2))
    have HSX := Lib.hid (fun wx (h : RDlg wx (.agg ws) ⟨d.call, d.loc, d.rem, d.tgt, d.routes, r.seq, d.lout⟩) i1 i2 => h.setTgt c.uri (q1 := .slice a1 c.uri.ps.length g1) (q2 := .slice a2 c.uri.hs.length g2) i1 i2)
    obtain ⟨xs, hxs⟩ : ∃ x, x = setAll ws 17 #[.string (bs c.uri.scheme), .string (bs c.uri.user), .string (bs c.uri.host), .int .i64 c.uri.port, .slice a1 c.uri.ps.length g1, .slice a2 c.uri.hs.length g2].toList := ⟨_, rfl⟩
    rw [← hxs] at bd8 sx onex HOX
    have hxs2 : xs = setAll ws 17 [.string (bs c.uri.scheme), .string (bs c.uri.user), .string (bs c.uri.host), .int .i64 c.uri.port, .slice a1 c.uri.ps.length g1, .slice a2 c.uri.hs.length g2] := hxs
    rw [← hxs2] at HSX
    clear hxs hxs2
    go_upto_region 8 with fail
    refine wp_region_lit ?_
    refine wpList_loadB (vs := xs) rfl rfl rfl Tryz.underlying34 (by rw [sx]; rfl) bd8 (whole _) ?_
    refine wpList_storeB (vs := xs) (cs' := xs) rfl rfl rfl rfl (by rw [sx]; rfl) bz8 (by rw [sx, z26]; omega) onex (setAll_whole (by rw [z26, sx])) ?_
    intro w9 bz9 hfar9 hsz9 hbel9
    go_wp2
    refine bodyPost_ret (results_ct rfl rfl rfl Tryz.underlying34 (by rw [sx]; rfl) bz9) rfl ?_
    have HBf := (hB2.trans (hbel8 _ (Nat.le_refl _))).trans (hbel9 _ (by omega))
    have o1 : ∀ g, g < w2.heap.size → Off g (.slice a1 c.uri.ps.length g1) := fun g h => Off.fresh hF1 h
    have o2 : ∀ g, g < w2.heap.size → Off g (.slice a2 c.uri.hs.length g2) := fun g h => Off.fresh hF2 h
    have R1' := Off.prms (Off.prms R1 (o1 _ (by omega)) hfar8 (Nat.le_of_eq hsz8.symm)) (o1 _ hlt2) hfar9 (Nat.le_of_eq hsz9.symm)
    have R2' := Off.prms (Off.prms R2 (o2 _ (by omega)) hfar8 (Nat.le_of_eq hsz8.symm)) (o2 _ hlt2) hfar9 (Nat.le_of_eq hsz9.symm)
    exact ⟨_, rfl, HSX.out _ (HD2.out.below HBf (Nat.le_refl _)) R1' R2', fun g hg h => HOX.out g h (o1 g (by omega)) (o2 g (by omega)), HBf⟩

set_option maxRecDepth 100000 in
set_option maxHeartbeats 6400000 in
theorem takeR_c (vs : Array Value) (vr : Value) (d : Dlg) (r : Rq) (w : World) (hd : RDlg w (.agg vs) d) (hr : RReq w vr r) (b1 : ∀ p ∈ d.loc.ps, p.name.length ≤ 4294967280) (b2 : ∀ p ∈ d.rem.ps, p.name.length ≤ 4294967280) (b3 : ∀ c ∈ r.contact, c.uri.ps.length ≤ 1099511627776 ∧ c.uri.hs.length ≤ 1099511627776) :
    Calls Tryz.prog 23 #[.agg vs, vr] w fun e w' => ∃ xs : Array Value, e = .returned (.tuple #[.agg xs, .int .i64 (takeS d r).2]) ∧ RDlg w' (.agg xs) (takeS d r).1 ∧ Below w.heap.size w w' := by
  obtain ⟨vs', ev, s26, one, v24, _, hd⟩ := hd.row
  injection ev with ev
  subst ev
  obtain ⟨rs, rfl, s38, _, _, _, r28, ⟨ca, cc, r32, ha⟩, hr⟩ := hr.row
  have hcm : r.contact.length ≤ 2 ^ 63 - 1 := by obtain ⟨_, _, _, h, _⟩ := ha.form; exact h
  obtain ⟨Z, hZl⟩ : ∃ Z : Array Value, Z = #[(.string ⟨#[]⟩), (.string ⟨#[]⟩), (.string ⟨#[]⟩), (.string ⟨#[]⟩), (.string ⟨#[]⟩), (.int .i64 0), (.slice none 0 0), (.slice none 0 0), (.slice none 0 0), (.string ⟨#[]⟩), (.string ⟨#[]⟩), (.string ⟨#[]⟩), (.string ⟨#[]⟩), (.int .i64 0), (.slice none 0 0), (.slice none 0 0), (.slice none 0 0), (.string ⟨#[]⟩), (.string ⟨#[]⟩), (.string ⟨#[]⟩), (.int .i64 0), (.slice none 0 0), (.slice none 0 0), (.slice none 0 0), (.int .i64 0), (.int .i64 0)] := ⟨_, rfl⟩
  have z26 : Z.size = 26 := by rw [hZl]; rfl
  have hB0 : Below w.heap.size w (((w.alloc (.cells vs 34)).alloc (.cells rs 32)).alloc (.cells #[(.string ⟨#[]⟩), (.string ⟨#[]⟩), (.string ⟨#[]⟩), (.string ⟨#[]⟩), (.string ⟨#[]⟩), (.int .i64 0), (.slice none 0 0), (.slice none 0 0), (.slice none 0 0), (.string ⟨#[]⟩), (.string ⟨#[]⟩), (.string ⟨#[]⟩), (.string ⟨#[]⟩), (.int .i64 0), (.slice none 0 0), (.slice none 0 0), (.slice none 0 0), (.string ⟨#[]⟩), (.string ⟨#[]⟩), (.string ⟨#[]⟩), (.int .i64 0), (.slice none 0 0), (.slice none 0 0), (.slice none 0 0), (.int .i64 0), (.int .i64 0)] 34)) := (((Below.refl _ _).alloc (Nat.le_refl _) _).alloc (by rw [World.size_alloc]; omega) _).alloc (by rw [World.size_alloc, World.size_alloc]; omega) _
  have bd0 : Blk (((w.alloc (.cells vs 34)).alloc (.cells rs 32)).alloc (.cells #[(.string ⟨#[]⟩), (.string ⟨#[]⟩), (.string ⟨#[]⟩), (.string ⟨#[]⟩), (.string ⟨#[]⟩), (.int .i64 0), (.slice none 0 0), (.slice none 0 0), (.slice none 0 0), (.string ⟨#[]⟩), (.string ⟨#[]⟩), (.string ⟨#[]⟩), (.string ⟨#[]⟩), (.int .i64 0), (.slice none 0 0), (.slice none 0 0), (.slice none 0 0), (.string ⟨#[]⟩), (.string ⟨#[]⟩), (.string ⟨#[]⟩), (.int .i64 0), (.slice none 0 0), (.slice none 0 0), (.slice none 0 0), (.int .i64 0), (.int .i64 0)] 34)) (w.heap.size) 34 vs := ((Blk.new w 34 vs).alloc _).alloc _
  have br0 : Blk (((w.alloc (.cells vs 34)).alloc (.cells rs 32)).alloc (.cells #[(.string ⟨#[]⟩), (.string ⟨#[]⟩), (.string ⟨#[]⟩), (.string ⟨#[]⟩), (.string ⟨#[]⟩), (.int .i64 0), (.slice none 0 0), (.slice none 0 0), (.slice none 0 0), (.string ⟨#[]⟩), (.string ⟨#[]⟩), (.string ⟨#[]⟩), (.string ⟨#[]⟩), (.int .i64 0), (.slice none 0 0), (.slice none 0 0), (.slice none 0 0), (.string ⟨#[]⟩), (.string ⟨#[]⟩), (.string ⟨#[]⟩), (.int .i64 0), (.slice none 0 0), (.slice none 0 0), (.slice none 0 0), (.int .i64 0), (.int .i64 0)] 34)) (w.heap.size + 1) 32 rs := by
    have := (Blk.new (w.alloc (.cells vs 34)) 32 rs).alloc (.cells #[(.string ⟨#[]⟩), (.string ⟨#[]⟩), (.string ⟨#[]⟩), (.string ⟨#[]⟩), (.string ⟨#[]⟩), (.int .i64 0), (.slice none 0 0), (.slice none 0 0), (.slice none 0 0), (.string ⟨#[]⟩), (.string ⟨#[]⟩), (.string ⟨#[]⟩), (.string ⟨#[]⟩), (.int .i64 0), (.slice none 0 0), (.slice none 0 0), (.slice none 0 0), (.string ⟨#[]⟩), (.string ⟨#[]⟩), (.string ⟨#[]⟩), (.int .i64 0), (.slice none 0 0), (.slice none 0 0), (.slice none 0 0), (.int .i64 0), (.int .i64 0)] 34)
    rwa [World.size_alloc] at this
  have bz0 : Blk (((w.alloc (.cells vs 34)).alloc (.cells rs 32)).alloc (.cells #[(.string ⟨#[]⟩), (.string ⟨#[]⟩), (.string ⟨#[]⟩), (.string ⟨#[]⟩), (.string ⟨#[]⟩), (.int .i64 0), (.slice none 0 0), (.slice none 0 0), (.slice none 0 0), (.string ⟨#[]⟩), (.string ⟨#[]⟩), (.string ⟨#[]⟩), (.string ⟨#[]⟩), (.int .i64 0), (.slice none 0 0), (.slice none 0 0), (.slice none 0 0), (.string ⟨#[]⟩), (.string ⟨#[]⟩), (.string ⟨#[]⟩), (.int .i64 0), (.slice none 0 0), (.slice none 0 0), (.slice none 0 0), (.int .i64 0), (.int .i64 0)] 34)) (w.heap.size + 1 + 1) 34 Z := by
    have := Blk.new ((w.alloc (.cells vs 34)).alloc (.cells rs 32)) 34 #[(.string ⟨#[]⟩), (.string ⟨#[]⟩), (.string ⟨#[]⟩), (.string ⟨#[]⟩), (.string ⟨#[]⟩), (.int .i64 0), (.slice none 0 0), (.slice none 0 0), (.slice none 0 0), (.string ⟨#[]⟩), (.string ⟨#[]⟩), (.string ⟨#[]⟩), (.string ⟨#[]⟩), (.int .i64 0), (.slice none 0 0), (.slice none 0 0), (.slice none 0 0), (.string ⟨#[]⟩), (.string ⟨#[]⟩), (.string ⟨#[]⟩), (.int .i64 0), (.slice none 0 0), (.slice none 0 0), (.slice none 0 0), (.int .i64 0), (.int .i64 0)]
    rw [World.size_alloc, World.size_alloc] at this
    rw [hZl]; exact this
  have hs3 : (((w.alloc (.cells vs 34)).alloc (.cells rs 32)).alloc (.cells #[(.string ⟨#[]⟩), (.string ⟨#[]⟩), (.string ⟨#[]⟩), (.string ⟨#[]⟩), (.string ⟨#[]⟩), (.int .i64 0), (.slice none 0 0), (.slice none 0 0), (.slice none 0 0), (.string ⟨#[]⟩), (.string ⟨#[]⟩), (.string ⟨#[]⟩), (.string ⟨#[]⟩), (.int .i64 0), (.slice none 0 0), (.slice none 0 0), (.slice none 0 0), (.string ⟨#[]⟩), (.string ⟨#[]⟩), (.string ⟨#[]⟩), (.int .i64 0), (.slice none 0 0), (.slice none 0 0), (.slice none 0 0), (.int .i64 0), (.int .i64 0)] 34)).heap.size = w.heap.size + 3 := by rw [World.size_alloc, World.size_alloc, World.size_alloc]
  obtain ⟨w0, hw0⟩ : ∃ w0, w0 = (((w.alloc (.cells vs 34)).alloc (.cells rs 32)).alloc (.cells #[(.string ⟨#[]⟩), (.string ⟨#[]⟩), (.string ⟨#[]⟩), (.string ⟨#[]⟩), (.string ⟨#[]⟩), (.int .i64 0), (.slice none 0 0), (.slice none 0 0), (.slice none 0 0), (.string ⟨#[]⟩), (.string ⟨#[]⟩), (.string ⟨#[]⟩), (.string ⟨#[]⟩), (.int .i64 0), (.slice none 0 0), (.slice none 0 0), (.slice none 0 0), (.string ⟨#[]⟩), (.string ⟨#[]⟩), (.string ⟨#[]⟩), (.int .i64 0), (.slice none 0 0), (.slice none 0 0), (.slice none 0 0), (.int .i64 0), (.int .i64 0)] 34)) := ⟨_, rfl⟩
  rw [← hw0] at hB0 bd0 br0 bz0 hs3
  have HW0 := Lib.hid hw0
  have HS3 := Lib.hid hs3
  have HM := Lib.hid (matchR_c _ _ d r w0 (hd.below hB0 (Nat.le_refl _)) (hr.below hB0 (Nat.le_refl _)) b1 b2)
  have HX := Lib.hid (fun (wx : World) (h : Below w0.heap.size w0 wx) => (show Blk wx (w.heap.size) 34 vs ∧ Blk wx (w.heap.size + 1) 32 rs ∧ Blk wx (w.heap.size + 1 + 1) 34 Z ∧ Below w.heap.size w wx from
    ⟨bd0.call h, br0.call h, bz0.call h, hB0.trans (h.mono hB0.size)⟩))
  have HA := Lib.hid ha
  have HD := Lib.hid hd
  have hcs := takeS_cases d r
  have hZ : Below w0.heap.size w0 w0 := Below.refl _ _
  obtain ⟨bd, br, bz, hBB⟩ := HX.out _ hZ
  clear hw0 hB0 bd0 br0 bz0 hs3 ha hd hr b1 b2 hZl
  rcases hcs with ⟨hm, hT⟩ | ⟨hm, hs, hT⟩ | ⟨hm, hs, hl, hT⟩ | ⟨hm, hs, c, hc, hT⟩
  · rw [hm] at HM
    rw [hT]
    dsimp only
    clear hm hT
    go_enter Tryz.func23, Tryz.ntmps23
    go_upto_region 1 with fail
    rw [← HW0.out]
    refine wp_region_lit ?_
    refine wpList_loadB (vs := vs) rfl rfl rfl Tryz.underlying34 (by rw [s26]; rfl) bd (whole _) ?_
    refine wpList_loadB (vs := rs) rfl rfl rfl Tryz.underlying32 (by rw [s38]; rfl) br (whole _) ?_
    go_upto_region 2 with (go_at_call 25; refine HM.out.mono ?_; rintro e w1 ⟨rfl, hC1⟩; have hZ := hC1; clear bd br bz hBB; obtain ⟨bd, br, bz, hBB⟩ := HX.out _ hZ)
    refine wp_region_lit ?_
    refine wpList_loadB (vs := vs) rfl rfl rfl Tryz.underlying34 (by rw [s26]; rfl) bd (whole _) ?_
    refine wpList_storeB (vs := vs) (cs' := vs) rfl rfl rfl rfl (by rw [s26]; rfl) bz (by rw [s26, z26]; omega) one (setAll_whole (by rw [z26, s26])) ?_
    intro w9 bz9 hfar9 hsz9 hbel9
    go_wp2
    refine bodyPost_ret (results_ct rfl rfl rfl Tryz.underlying34 (by rw [s26]; rfl) bz9) rfl ?_
    have HBf := hBB.trans (hbel9 _ (by omega))
    exact ⟨_, rfl, HD.out.below HBf (Nat.le_refl _), HBf⟩
  · rw [hm] at HM
    rw [hT]
    dsimp only
    clear hm hT
    go_enter Tryz.func23, Tryz.ntmps23
    go_upto_region 1 with fail
    rw [← HW0.out]
    refine wp_region_lit ?_
    refine wpList_loadB (vs := vs) rfl rfl rfl Tryz.underlying34 (by rw [s26]; rfl) bd (whole _) ?_
    refine wpList_loadB (vs := rs) rfl rfl rfl Tryz.underlying32 (by rw [s38]; rfl) br (whole _) ?_
    go_upto_region 3 with (go_at_call 25; refine HM.out.mono ?_; rintro e w1 ⟨rfl, hC1⟩; have hZ := hC1; clear bd br bz hBB; obtain ⟨bd, br, bz, hBB⟩ := HX.out _ hZ)
    have p24 := (boxedCell bd 24).trans v24; have f24 := boxedFree bd 24; have x28 := (boxedCell br 28).trans r28; have x32 := (boxedCell br 32).trans r32
    go_upto_region 4 with fail
    refine wp_region_lit ?_
    refine wpList_loadB (vs := vs) rfl rfl rfl Tryz.underlying34 (by rw [s26]; rfl) bd (whole _) ?_
    refine wpList_storeB (vs := vs) (cs' := vs) rfl rfl rfl rfl (by rw [s26]; rfl) bz (by rw [s26, z26]; omega) one (setAll_whole (by rw [z26, s26])) ?_
    intro w9 bz9 hfar9 hsz9 hbel9
    go_wp2
    refine bodyPost_ret (results_ct rfl rfl rfl Tryz.underlying34 (by rw [s26]; rfl) bz9) rfl ?_
    have HBf := hBB.trans (hbel9 _ (by omega))
    exact ⟨_, rfl, HD.out.below HBf (Nat.le_refl _), HBf⟩
  · rw [hm] at HM
    rw [hT]
    dsimp only
    have tl : ((r.contact.length : Int) == 1) = false := by simp; omega
    clear hm hT hl
    go_enter Tryz.func23, Tryz.ntmps23
    go_upto_region 1 with fail
    rw [← HW0.out]
    refine wp_region_lit ?_
    refine wpList_loadB (vs := vs) rfl rfl rfl Tryz.underlying34 (by rw [s26]; rfl) bd (whole _) ?_
    refine wpList_loadB (vs := rs) rfl rfl rfl Tryz.underlying32 (by rw [s38]; rfl) br (whole _) ?_
    go_upto_region 3 with (go_at_call 25; refine HM.out.mono ?_; rintro e w1 ⟨rfl, hC1⟩; have hZ := hC1; clear bd br bz hBB; obtain ⟨bd, br, bz, hBB⟩ := HX.out _ hZ)
    have p24 := (boxedCell bd 24).trans v24; have f24 := boxedFree bd 24; have x28 := (boxedCell br 28).trans r28; have x32 := (boxedCell br 32).trans r32
    have hB2 := hBB.setCell (p := ⟨w.heap.size, 24, none⟩) (Nat.le_refl _) (.int .i64 r.seq)
    have bd2 : Blk _ (w.heap.size) 34 (vs.setIfInBounds 24 (.int .i64 r.seq)) := bd.set_ 24 (.int .i64 r.seq)
    have br2 := br.far (p := ⟨w.heap.size, 24, none⟩) (show w.heap.size + 1 ≠ w.heap.size by omega) (.int .i64 r.seq)
    have bz2 := bz.far (p := ⟨w.heap.size, 24, none⟩) (show w.heap.size + 1 + 1 ≠ w.heap.size by omega) (.int .i64 r.seq)
    have HD2 := Lib.hid (HD.out.setLin r.seq)
    have one2 : ((vs.setIfInBounds 24 (.int .i64 r.seq)).toList.all fun v => v.oneCell') = true := all_set one rfl
    have s26' : (vs.setIfInBounds 24 (.int .i64 r.seq)).size = 26 := by rw [Array.size_setIfInBounds, s26]
    have HO := Lib.hid (fun g (h : DOff g vs) => h.set 24 (Off.int g r.seq))
    obtain ⟨ws, hws⟩ : ∃ x, x = vs.setIfInBounds 24 (.int .i64 r.seq) := ⟨_, rfl⟩
    rw [← hws] at bd2 HD2 one2 s26' HO
    obtain ⟨w2, hw2⟩ : ∃ x, x = (w1.setCell ⟨w.heap.size, 24, none⟩ (.int .i64 r.seq)) := ⟨_, rfl⟩
    rw [← hw2] at hB2 bd2 br2 bz2
    go_upto_region 6 with fail
    rw [← hw2]
    clear hw2
    have x32 := (boxedCell br2 32).trans r32
    go_upto_region 8 with fail
    refine wp_region_lit ?_
    refine wpList_loadB (vs := ws) rfl rfl rfl Tryz.underlying34 (by rw [s26']; rfl) bd2 (whole _) ?_
    refine wpList_storeB (vs := ws) (cs' := ws) rfl rfl rfl rfl (by rw [s26']; rfl) bz2 (by rw [s26', z26]; omega) one2 (setAll_whole (by rw [z26, s26'])) ?_
    intro w9 bz9 hfar9 hsz9 hbel9
    go_wp2
    refine bodyPost_ret (results_ct rfl rfl rfl Tryz.underlying34 (by rw [s26']; rfl) bz9) rfl ?_
    have HBf := hB2.trans (hbel9 _ (by omega))
    exact ⟨_, rfl, HD2.out.below HBf (Nat.le_refl _), HBf⟩
  · rw [hm] at HM
    rw [hT]
    dsimp only
    have b3' := b3 c (by rw [hc]; exact List.mem_singleton.2 rfl)
    have tl : r.contact.length = 1 := by rw [hc]; rfl
    rw [hc] at HA
    rw [tl] at r32
    clear hm hT b3
    go_enter Tryz.func23, Tryz.ntmps23
    go_upto_region 1 with fail
    rw [← HW0.out]
    refine wp_region_lit ?_
    refine wpList_loadB (vs := vs) rfl rfl rfl Tryz.underlying34 (by rw [s26]; rfl) bd (whole _) ?_
    refine wpList_loadB (vs := rs) rfl rfl rfl Tryz.underlying32 (by rw [s38]; rfl) br (whole _) ?_
    go_upto_region 3 with (go_at_call 25; refine HM.out.mono ?_; rintro e w1 ⟨rfl, hC1⟩; have hZ := hC1; clear bd br bz hBB; obtain ⟨bd, br, bz, hBB⟩ := HX.out _ hZ)
    have p24 := (boxedCell bd 24).trans v24; have f24 := boxedFree bd 24; have x28 := (boxedCell br 28).trans r28; have x32 := (boxedCell br 32).trans r32
    have hB2 := hBB.setCell (p := ⟨w.heap.size, 24, none⟩) (Nat.le_refl _) (.int .i64 r.seq)
    have bd2 : Blk _ (w.heap.size) 34 (vs.setIfInBounds 24 (.int .i64 r.seq)) := bd.set_ 24 (.int .i64 r.seq)
    have br2 := br.far (p := ⟨w.heap.size, 24, none⟩) (show w.heap.size + 1 ≠ w.heap.size by omega) (.int .i64 r.seq)
    have bz2 := bz.far (p := ⟨w.heap.size, 24, none⟩) (show w.heap.size + 1 + 1 ≠ w.heap.size by omega) (.int .i64 r.seq)
    have HD2 := Lib.hid (HD.out.setLin r.seq)
    have one2 : ((vs.setIfInBounds 24 (.int .i64 r.seq)).toList.all fun v => v.oneCell') = true := all_set one rfl
    have s26' : (vs.setIfInBounds 24 (.int .i64 r.seq)).size = 26 := by rw [Array.size_setIfInBounds, s26]
    have HO := Lib.hid (fun g (h : DOff g vs) => h.set 24 (Off.int g r.seq))
    obtain ⟨ws, hws⟩ : ∃ x, x = vs.setIfInBounds 24 (.int .i64 r.seq) := ⟨_, rfl⟩
    rw [← hws] at bd2 HD2 one2 s26' HO
    obtain ⟨w2, hw2⟩ : ∃ x, x = (w1.setCell ⟨w.heap.size, 24, none⟩ (.int .i64 r.seq)) := ⟨_, rfl⟩
    rw [← hw2] at hB2 bd2 br2 bz2
    go_upto_region 6 with fail
    rw [← hw2]
    clear hw2
    have x32 := (boxedCell br2 32).trans r32
    obtain ⟨ao2, cap2, e2, _, c2⟩ := HA.out.form
    obtain ⟨b, off, eb, hbl, hcc⟩ := c2 (by simp)
    obtain ⟨_, k1, k2, k3, k4, s1, s2, _, k5, k6, _, q1, q2, _⟩ := hcc 0 (by simp)
    simp only [Nat.zero_mul, Nat.add_zero, List.getElem_cons_zero] at k1 k2 k3 k4 k5 k6 q1 q2
    have hcw : ∀ o, w2.cell? ⟨b, o, none⟩ = w.cell? ⟨b, o, none⟩ := fun o => World.cell?_of_block (w := w) (a := ⟨b, o, none⟩) (hB2.block b hbl)
    rw [← hcw] at k1 k2 k3 k4 k5 k6
    injection e2 with e2 _ _
    rw [eb] at e2
    subst e2
    clear eb hcc c2 hcw
    obtain ⟨n1, d1, rfl⟩ := q1.form'
    obtain ⟨n2, d2, rfl⟩ := q2.form'
    have Q1 := Lib.hid q1
    have Q2 := Lib.hid q2
    clear q1 q2
    unfold sv at k1 k2 k3
    have HB2 := Lib.hid hB2
    go_wp2_with (with_reducible refine holdStore 24 rfl ?_)
    unfold Hold
    refine wpList_storeB (vs := #[.string (bs c.uri.scheme), .string (bs c.uri.user), .string (bs c.uri.host), .int .i64 c.uri.port, .slice n1 c.uri.ps.length d1, .slice n2 c.uri.hs.length d2]) rfl rfl rfl rfl (by kernel_rfl) bd2 (by rw [s26']; exact Nat.le_of_ble_eq_true rfl) rfl rfl ?_
    intro w8 bd8 hfar8 hsz8 hbel8
    have bz8 : Blk w8 (w.heap.size + 1 + 1) 34 Z := (hfar8 _ (by omega)).trans bz2
    have sx : (setAll ws 17 #[.string (bs c.uri.scheme), .string (bs c.uri.user), .string (bs c.uri.host), .int .i64 c.uri.port, .slice n1 c.uri.ps.length d1, .slice n2 c.uri.hs.length d2].toList).size = 26 := by rw [setAll_size, s26']
    have onex : ((setAll ws 17 #[.string (bs c.uri.scheme), .string (bs c.uri.user), .string (bs c.uri.host), .int .i64 c.uri.port, .slice n1 c.uri.ps.length d1, .slice n2 c.uri.hs.length d2].toList).toList.all fun v => v.oneCell') = true := all_setAll one2 17 rfl
    have HOX := Lib.hid (fun g (h : DOff g vs) (h1 : Off g (Value.slice n1 c.uri.ps.length d1)) (h2 : Off g (Value.slice n2 c.uri.hs.length d2)) => (HO.out g h).setAll 17 (l := #[.string (bs c.uri.scheme), .string (bs c.uri.user), .string (bs c.uri.host), .int .i64 c.uri.port, .slice n1 c.uri.ps.length d1, .slice n2 c.uri.hs.length d2].toList) (off6 h1 h2))
    have HSX := Lib.hid (fun wx (h : RDlg wx (.agg ws) ⟨d.call, d.loc, d.rem, d.tgt, d.routes, r.seq, d.lout⟩) i1 i2 => h.setTgt c.uri (q1 := .slice n1 c.uri.ps.length d1) (q2 := .slice n2 c.uri.hs.length d2) i1 i2)
    obtain ⟨xs, hxs⟩ : ∃ x, x = setAll ws 17 #[.string (bs c.uri.scheme), .string (bs c.uri.user), .string (bs c.uri.host), .int .i64 c.uri.port, .slice n1 c.uri.ps.length d1, .slice n2 c.uri.hs.length d2].toList := ⟨_, rfl⟩
    rw [← hxs] at bd8 sx onex HOX
    have hxs2 : xs = setAll ws 17 [.string (bs c.uri.scheme), .string (bs c.uri.user), .string (bs c.uri.host), .int .i64 c.uri.port, .slice n1 c.uri.ps.length d1, .slice n2 c.uri.hs.length d2] := hxs
    rw [← hxs2] at HSX
    clear hxs hxs2
    go_upto_region 8 with fail
    refine wp_region_lit ?_
    refine wpList_loadB (vs := xs) rfl rfl rfl Tryz.underlying34 (by rw [sx]; rfl) bd8 (whole _) ?_
    refine wpList_storeB (vs := xs) (cs' := xs) rfl rfl rfl rfl (by rw [sx]; rfl) bz8 (by rw [sx, z26]; omega) onex (setAll_whole (by rw [z26, sx])) ?_
    intro w9 bz9 hfar9 hsz9 hbel9
    go_wp2
    refine bodyPost_ret (results_ct rfl rfl rfl Tryz.underlying34 (by rw [sx]; rfl) bz9) rfl ?_
    have HBf := (hB2.trans (hbel8 _ (Nat.le_refl _))).trans (hbel9 _ (by omega))
    exact ⟨_, rfl, HSX.out _ (HD2.out.below HBf (Nat.le_refl _)) (Q1.out.below HBf (Nat.le_refl _)) (Q2.out.below HBf (Nat.le_refl _)), HBf⟩

end Go.Proofs.YtipdiddjhimdcaaGreatDoor

namespace Go.Proofs.YtipdiddjhimdcaaGreatDoor
set_option linter.unusedSimpArgs false
set_option linter.unusedVariables false
open Go.RowKit Go.Sort


section
variable {P : Program} {ops : Array Oper} {rest : List Oper} {o : Oper} {a : Act} {Q : Exit → Act → World → Prop} {w : World} {t : TypeId}
/-- a struct loaded whole by an operation behind a guard that is met -/
theorem wpList_loadG {g : Nat} {T : TypeId} {fs : Array Field} {vs : Array Value} {p : Operand}
    (hw : Region.wanted o (yielded ops a.tmps) = true) (ho : o.op = .load T p) (hp : a.eval p = .pointer (some ⟨g, 0, none⟩)) (hA : P.underlying T = some (.struct fs)) (hC : (P.info? T).map (·.size) = some vs.size)
    (hb : Blk w g t vs) (h : wpList P ops Q rest (a.put o.dst (.agg vs)) w) : wpList P ops Q (o :: rest) a w := by
  refine wpList_step fun K hK => ?_
  rw [if_pos hw]
  have hl := loadVar_blk hA hC hb
  have hex : (execOp a.eval o).run P w = .ok (.value (.agg vs)) w := by
    simp [execOp, ho, hp, Instr.loadAt, Instr.sureAddr, hl, Result.andThen]
  unfold Oper.wp
  rw [hex]
  exact hK _ _ h
end
def d0A : Dlg := ⟨[57], ⟨[], ⟨[115, 105, 112], [97], [98], 0, [], []⟩, [⟨[116, 97, 103], [120], true⟩]⟩, pFrom, pUri, [], 7, 0⟩
def rqT (n : Int) : Rq := ⟨pFrom, pTo, [49], [120], [57], n, [⟨[], pUri, []⟩], []⟩
theorem ex18_4 : beginS plainRq [120] = ((d0A, 0) : Dlg × Int) := by kernel_rfl
theorem ex18_5 : takeS d0A (rqT 7) = ((d0A, 180) : Dlg × Int) := by kernel_rfl
theorem ex18_6 : (takeS d0A (rqT 8)).2 = 0 := by decide +kernel
theorem ex18_7 : whereD d0A = [100, 58, 53, 48, 55, 48] := by decide +kernel
theorem adrB_from : AdrB pFrom := ⟨by decide, by decide, by decide, fun p hp => (by cases hp), fun p hp => (by cases hp), fun p hp => (by rw [List.mem_singleton.1 hp]; decide), by decide, by decide, by decide⟩
theorem adrB_to : AdrB pTo := ⟨by decide, by decide, by decide, fun p hp => (by cases hp), fun p hp => (by cases hp), fun p hp => (by cases hp), by decide, by decide, by decide⟩
theorem rqB_plain : RqB plainRq := ⟨adrB_from, adrB_to, fun c hc => (by rw [List.mem_singleton.1 hc]; decide), by decide, by decide, by decide⟩
theorem d0A_b1 : ∀ p ∈ d0A.loc.ps, p.name.length ≤ 4294967280 := fun p hp => by rw [List.mem_singleton.1 hp]; decide
theorem d0A_b2 : ∀ p ∈ d0A.rem.ps, p.name.length ≤ 4294967280 := fun p hp => by rw [List.mem_singleton.1 hp]; decide
theorem rqT_b3 (n : Int) : ∀ c ∈ (rqT n).contact, c.uri.ps.length ≤ 1099511627776 ∧ c.uri.hs.length ≤ 1099511627776 := fun c hc => by rw [List.mem_singleton.1 hc]; decide

set_option maxRecDepth 100000 in
set_option maxHeartbeats 12800000 in
theorem awake18_c (w : World) (hm : Ml w) : Calls Tryz.prog 12 #[] w fun e w' => e = .returned (.bool true) ∧ Below w.heap.size w w' := by
  have HM := Lib.hid hm
  have HPL := Lib.hid (fun wx => plainQ_c wx)
  have HBG := Lib.hid (fun wx rs hx hr => begin_c rs ⟨#[120]⟩ plainRq wx hx hr rqB_plain (by decide))
  rw [show us ⟨#[120]⟩ = [120] from rfl, ex18_4] at HBG
  have HT1 := Lib.hid (fun wx vs rs hd hr => take_c vs (.agg rs) d0A (rqT 7) wx hd hr d0A_b1 d0A_b2 (rqT_b3 7))
  rw [ex18_5] at HT1
  have HT2 := Lib.hid (fun wx vs rs hd hr => take_c vs (.agg rs) d0A (rqT 8) wx hd hr d0A_b1 d0A_b2 (rqT_b3 8))
  rw [ex18_6] at HT2
  have HWD := Lib.hid (fun wx vs hx hd => whereD_c (.agg vs) d0A wx hx hd (by decide) (by decide) (by decide) (fun x hx => (by cases hx)) (fun x hx => (by cases hx)))
  rw [ex18_7, show bs [100, 58, 53, 48, 55, 48] = ⟨#[100, 58, 53, 48, 55, 48]⟩ from rfl] at HWD
  dsimp only at HBG HT1
  clear hm
  have hZ0 : Below w.heap.size w w := Below.refl _ _
  go_enter Tryz.func12, Tryz.ntmps12
  go_wp2_with (first | (go_at_call 26; refine (HPL.out _).mono ?_; rintro e w1 ⟨rs, rfl, s38, one, _, hR, hC1⟩; replace hZ0 := hZ0.trans (hC1.mono hZ0.size)) | (go_at_call 10; refine (HBG.out _ _ (HM.out.below hZ0) hR).mono ?_; rintro e w2 ⟨ds, rfl, hD, hC2⟩; replace hZ0 := hZ0.trans (hC2.mono hZ0.size)) | (with_reducible refine holdStore 34 rfl ?_))
  unfold Hold
  obtain ⟨ds', ed, d26, done_, dl, _, hD⟩ := hD.row
  injection ed with ed
  subst ed
  refine wpList_storeNew (vs := ds) rfl rfl rfl rfl (by rw [d26]; rfl) (by rw [d26]; rfl) done_ ?_
  clear hC1 hC2 hR s38 one
  have bd := Blk.new w2 34 ds
  have hZ1 := hZ0.alloc hZ0.size (.cells ds 34)
  have hD1 := Lib.hid (hD.below ((Below.refl w2.heap.size w2).alloc (Nat.le_refl _) (.cells ds 34)) (Nat.le_refl _))
  obtain ⟨gd, hgd⟩ : ∃ x, x = w2.heap.size := ⟨_, rfl⟩
  obtain ⟨w3, hw3⟩ : ∃ x, x = w2.alloc (.cells ds 34) := ⟨_, rfl⟩
  rw [← hw3] at bd hZ1 hD1
  rw [← hw3]
  rw [← hgd] at bd
  rw [← hgd]
  clear hw3 hgd hZ0 hD
  go_wp2_with (first | (go_at_call 26; refine (HPL.out _).mono ?_; rintro e w4 ⟨rs, rfl, s38, one, _, hR, hC⟩) | (with_reducible refine holdStore 32 rfl ?_))
  unfold Hold
  refine wpList_storeNew (vs := rs) rfl rfl rfl rfl (by rw [s38]; rfl) (by rw [s38]; rfl) one ?_
  obtain ⟨rs', er, _, _, r26, _, r28, _, hR⟩ := hR.row
  injection er with er
  subst er
  have hgd3 := bd.lt
  have hZ2 := hZ1.trans (hC.mono hZ1.size)
  have hZ3 := hZ2.alloc hZ2.size (.cells rs 32)
  replace bd := (bd.call hC).alloc (.cells rs 32)
  have br := Blk.new w4 32 rs
  have hB3 := hC.alloc hC.size (.cells rs 32)
  have hA : Below w4.heap.size w4 (w4.alloc (.cells rs 32)) := (Below.refl _ _).alloc (Nat.le_refl _) _
  have HR4 := Lib.hid hR
  have hgr : w4.heap.size ≠ gd := Nat.ne_of_gt (Nat.lt_of_lt_of_le hgd3 hC.size)
  have hg3 : w3.heap.size ≤ w4.heap.size := hC.size
  have hgB : w.heap.size ≤ w4.heap.size := hZ2.size
  obtain ⟨gr, hgr2⟩ : ∃ x, x = w4.heap.size := ⟨_, rfl⟩
  obtain ⟨w5, hw5⟩ : ∃ x, x = w4.alloc (.cells rs 32) := ⟨_, rfl⟩
  rw [← hw5] at bd br hZ3 hA hB3
  rw [← hw5]
  rw [← hgr2] at br hgr hg3 hgB
  rw [← hgr2]
  have hg4 : w4.heap.size ≤ gr := Nat.le_of_eq hgr2.symm
  clear hw5 hgr2 hC hZ1 hZ2 hR HBG HPL hgd3
  have x26 := (boxedCell br 26).trans r26
  have f26 := boxedFree br 26
  go_upto_region 4 with fail
  -- the tag is told
  replace hZ3 := hZ3.setCell (p := ⟨gr, 26, none⟩) hgB (.string ⟨#[120]⟩)
  replace hA := hA.setCell (p := ⟨gr, 26, none⟩) hg4 (.string ⟨#[120]⟩)
  replace hB3 := hB3.setCell (p := ⟨gr, 26, none⟩) hg3 (.string ⟨#[120]⟩)
  replace bd := bd.far (p := ⟨gr, 26, none⟩) (Ne.symm hgr) (.string ⟨#[120]⟩)
  replace br : Blk _ gr 32 (rs.setIfInBounds 26 (.string ⟨#[120]⟩)) := br.set_ 26 (.string ⟨#[120]⟩)
  obtain ⟨ra, hra⟩ : ∃ x, x = rs.setIfInBounds 26 (.string ⟨#[120]⟩) := ⟨_, rfl⟩
  replace s38 : ra.size = 38 := by rw [hra, Array.size_setIfInBounds, s38]
  obtain ⟨w6, hwx⟩ : ∃ x, x = w5.setCell ⟨gr, 26, none⟩ (.string ⟨#[120]⟩) := ⟨_, rfl⟩
  rw [← hra] at br
  rw [← hwx] at hZ3 hA hB3 bd br
  rw [← hwx]
  clear hwx
  have hRa := Lib.hid (show RReq w4 (.agg ra) (rqT 7) from by rw [hra]; exact HR4.out.setTo [120])
  have r28a : ra[28]? = some (.int .i64 7) := by rw [hra, Array.getElem?_setIfInBounds_ne (by decide)]; exact r28
  clear hra r26 r28
  -- it is taken
  go_wp2_with (with_reducible refine holdLoad 34 rfl ?_)
  unfold Hold
  refine wpList_loadB (vs := ds) rfl rfl rfl Tryz.underlying34 (by rw [d26]; rfl) bd (whole _) ?_
  go_wp2_with (with_reducible refine holdLoad 32 rfl ?_)
  unfold Hold
  refine wpList_loadB (vs := ra) rfl rfl rfl Tryz.underlying32 (by rw [s38]; rfl) br (whole _) ?_
  go_wp2_with (first | (go_at_call 22; refine (HT1.out _ _ _ (hD1.out.below hB3 (Nat.le_refl _)) (hRa.out.below hA (Nat.le_refl _))).mono ?_; rintro e y ⟨ta, rfl, hT, _, hC⟩) | (with_reducible refine holdStore 34 rfl ?_))
  unfold Hold
  obtain ⟨t', et, t26, tone, _, _, _⟩ := hT.row
  injection et with et
  subst et
  refine wpList_storeNew (vs := ta) rfl rfl rfl rfl (by rw [t26]; rfl) (by rw [t26]; rfl) tone ?_
  replace hZ3 := (hZ3.trans (hC.mono hZ3.size)).alloc (hZ3.trans (hC.mono hZ3.size)).size (.cells ta 34)
  replace hA := (hA.trans (hC.mono hA.size)).alloc (hA.trans (hC.mono hA.size)).size (.cells ta 34)
  replace hB3 := (hB3.trans (hC.mono hB3.size)).alloc (hB3.trans (hC.mono hB3.size)).size (.cells ta 34)
  replace bd := (bd.call hC).alloc (.cells ta 34)
  replace br := (br.call hC).alloc (.cells ta 34)
  obtain ⟨w7, hwx⟩ : ∃ x, x = y.alloc (.cells ta 34) := ⟨_, rfl⟩
  rw [← hwx] at hZ3 hA hB3 bd br
  rw [← hwx]
  clear hwx hC hT t26 tone
  have x28 := (boxedCell br 28).trans r28a
  have f28 := boxedFree br 28
  go_upto_region 6 with fail
  replace hZ3 := hZ3.setCell (p := ⟨gr, 28, none⟩) hgB (.int .i64 8)
  replace hA := hA.setCell (p := ⟨gr, 28, none⟩) hg4 (.int .i64 8)
  replace hB3 := hB3.setCell (p := ⟨gr, 28, none⟩) hg3 (.int .i64 8)
  replace bd := bd.far (p := ⟨gr, 28, none⟩) (Ne.symm hgr) (.int .i64 8)
  replace br : Blk _ gr 32 (ra.setIfInBounds 28 (.int .i64 8)) := br.set_ 28 (.int .i64 8)
  obtain ⟨rb, hra⟩ : ∃ x, x = ra.setIfInBounds 28 (.int .i64 8) := ⟨_, rfl⟩
  replace s38 : rb.size = 38 := by rw [hra, Array.size_setIfInBounds, s38]
  obtain ⟨w8, hwx⟩ : ∃ x, x = w7.setCell ⟨gr, 28, none⟩ (.int .i64 8) := ⟨_, rfl⟩
  rw [← hra] at br
  rw [← hwx] at hZ3 hA hB3 bd br
  rw [← hwx]
  clear hwx
  have hRb := Lib.hid (show RReq w4 (.agg rb) (rqT 8) from by rw [hra]; exact hRa.out.setSeq 8)
  clear hra r28a x28 f28
  go_wp2_with (with_reducible refine holdLoad 34 rfl ?_)
  unfold Hold
  refine wpList_loadB (vs := ds) rfl rfl rfl Tryz.underlying34 (by rw [d26]; rfl) bd (whole _) ?_
  go_wp2_with (with_reducible refine holdLoad 32 rfl ?_)
  unfold Hold
  refine wpList_loadB (vs := rb) rfl rfl rfl Tryz.underlying32 (by rw [s38]; rfl) br (whole _) ?_
  go_wp2_with (first | (go_at_call 22; refine (HT2.out _ _ _ (hD1.out.below hB3 (Nat.le_refl _)) (hRb.out.below hA (Nat.le_refl _))).mono ?_; rintro e y ⟨tb, rfl, hT, _, hC⟩) | (with_reducible refine holdStore 34 rfl ?_))
  unfold Hold
  obtain ⟨t', et, t26, tone, _, _, _⟩ := hT.row
  injection et with et
  subst et
  refine wpList_storeNew (vs := tb) rfl rfl rfl rfl (by rw [t26]; rfl) (by rw [t26]; rfl) tone ?_
  replace hZ3 := (hZ3.trans (hC.mono hZ3.size)).alloc (hZ3.trans (hC.mono hZ3.size)).size (.cells tb 34)
  replace hA := (hA.trans (hC.mono hA.size)).alloc (hA.trans (hC.mono hA.size)).size (.cells tb 34)
  replace hB3 := (hB3.trans (hC.mono hB3.size)).alloc (hB3.trans (hC.mono hB3.size)).size (.cells tb 34)
  replace bd := (bd.call hC).alloc (.cells tb 34)
  replace br := (br.call hC).alloc (.cells tb 34)
  obtain ⟨w9, hwx⟩ : ∃ x, x = y.alloc (.cells tb 34) := ⟨_, rfl⟩
  rw [← hwx] at hZ3 hA hB3 bd br
  rw [← hwx]
  clear hwx hC hT t26 tone
  have x24 := (boxedCell bd 24).trans dl
  have hD9 := Lib.hid (hD1.out.below hB3 (Nat.le_refl _))
  have HWD9 := Lib.hid (HWD.out w9 ds (HM.out.below hZ3) hD9.out)
  go_wp2_with (with_reducible refine holdLoad 34 rfl ?_)
  unfold Hold
  refine wpList_loadG (vs := ds) (by rfl) rfl rfl Tryz.underlying34 (by rw [d26]; rfl) bd ?_
  go_wp2_with (go_at_call 27; refine HWD9.out.mono ?_; rintro e wz ⟨rfl, hCz⟩)
  go_ret
  exact ⟨rfl, hZ3.trans (hCz.mono hZ3.size)⟩

end Go.Proofs.YtipdiddjhimdcaaGreatDoor

namespace Go.Proofs.YtipdiddjhimdcaaGreatDoor
set_option linter.unusedSimpArgs false
set_option linter.unusedVariables false
open Go.RowKit Go.Sort


theorem RPrms.formS {w : World} {v : Value} {L : List Prm} (h : RPrms w v L) : ∃ ao c, v = .slice ao L.length c := by
  obtain ⟨ao, c, rfl, _⟩ := h.form; exact ⟨ao, c, rfl⟩
theorem sumJ_mul (M : Nat) : ∀ L : List (List UInt8), (∀ x ∈ L, x.length ≤ M) → sumJ L ≤ L.length * M
  | [], _ => Nat.zero_le _
  | x :: r, h => by
    have h1 := h x (List.mem_cons_self ..)
    have h2 := sumJ_mul M r (fun y hy => h y (List.mem_cons_of_mem _ hy))
    rw [sumJ, List.length_cons, Nat.add_mul]
    omega
theorem sumJ_mono (L : List (List UInt8)) (k : Nat) : sumJ (L.take k) ≤ sumJ L := by
  induction L generalizing k with
  | nil => simp [sumJ]
  | cons x r ih =>
    cases k with
    | zero => simp [sumJ]
    | succ k => rw [List.take_succ_cons, sumJ, sumJ]; have := ih k; omega
theorem smallR_one {r : Rq} {c : Adr} (h : r.contact = [c]) : smallR r = (fewA r.fr && fewA r.dst && decide (r.routes.length + sumJ r.routes ≤ 5000) && fewA c) := by unfold smallR; rw [h]
theorem smallR_not {r : Rq} (h : r.contact.length ≠ 1) : smallR r = (fewA r.fr && fewA r.dst && decide (r.routes.length + sumJ r.routes ≤ 5000) && true) := by
  unfold smallR
  match hc : r.contact with
  | [] => rfl
  | [c] => exact absurd (by rw [hc]; rfl) h
  | a :: b :: l => rfl
set_option maxRecDepth 100000 in
set_option maxHeartbeats 6400000 in
theorem small_c (rs : Array Value) (r : Rq) (w : World) (hr : RReq w (.agg rs) r) (hl : ∀ x ∈ r.routes, x.length ≤ 1048576) (hn : r.routes.length ≤ 1048576) :
    Calls Tryz.prog 11 #[.agg rs] w fun e w' => e = .returned (.bool (smallR r)) ∧ Below w.heap.size w w' := by
  obtain ⟨c0, c1, c2, c3, c4, c5, c6, c7, c8, c9, c10, c11, c12, c13, c14, c15, e1, y1, e2, y2, e3, y3, e4, y4, e5, y5, e6, y6, e7, y7, e8, y8, ers, h1, h2, h3, h4, h5, h6, h7, h8⟩ := hr.lit
  injection ers with ers
  have hcm : r.contact.length ≤ 2 ^ 63 - 1 := by obtain ⟨_, _, _, h, _⟩ := h7.form; exact h
  have HF1 := Lib.hid (fun (wx : World) (h : Below w.heap.size w wx) => few_c (bs r.fr.disp) (bs r.fr.uri.scheme) (bs r.fr.uri.user) (bs r.fr.uri.host) r.fr.uri.port _ _ _ r.fr.uri.ps r.fr.uri.hs r.fr.ps wx (h1.below h (Nat.le_refl _)) (h2.below h (Nat.le_refl _)) (h3.below h (Nat.le_refl _)))
  have HF2 := Lib.hid (fun (wx : World) (h : Below w.heap.size w wx) => few_c (bs r.dst.disp) (bs r.dst.uri.scheme) (bs r.dst.uri.user) (bs r.dst.uri.host) r.dst.uri.port _ _ _ r.dst.uri.ps r.dst.uri.hs r.dst.ps wx (h4.below h (Nat.le_refl _)) (h5.below h (Nat.le_refl _)) (h6.below h (Nat.le_refl _)))
  rw [show (decide (r.fr.ps.length ≤ 60) && decide (r.fr.uri.ps.length ≤ 60) && decide (r.fr.uri.hs.length ≤ 60)) = fewA r.fr from rfl] at HF1
  rw [show (decide (r.dst.ps.length ≤ 60) && decide (r.dst.uri.ps.length ≤ 60) && decide (r.dst.uri.hs.length ≤ 60)) = fewA r.dst from rfl] at HF2
  have hsl := sumJ_mul 1048576 r.routes hl
  have hsm := fun k => sumJ_mono r.routes k
  have H7 := Lib.hid h7
  have hB0 : Below w.heap.size w (w.alloc (.cells rs 32)) := (Below.refl _ _).alloc (Nat.le_refl _) _
  have br0 : Blk (w.alloc (.cells rs 32)) w.heap.size 32 rs := Blk.new w 32 rs
  obtain ⟨w0, hw0⟩ : ∃ w0, w0 = (w.alloc (.cells rs 32)) := ⟨_, rfl⟩
  rw [← hw0] at hB0 br0
  have HW0 := Lib.hid hw0
  have HX := Lib.hid (fun (wx : World) (h : Below w0.heap.size w0 wx) => (show wx.cell? ⟨w.heap.size, 9, none⟩ = some (.string (bs r.fr.disp)) ∧ wx.cell? ⟨w.heap.size, 10, none⟩ = some (.string (bs r.fr.uri.scheme)) ∧ wx.cell? ⟨w.heap.size, 11, none⟩ = some (.string (bs r.fr.uri.user)) ∧ wx.cell? ⟨w.heap.size, 12, none⟩ = some (.string (bs r.fr.uri.host)) ∧ wx.cell? ⟨w.heap.size, 13, none⟩ = some (.int .i64 r.fr.uri.port) ∧ wx.cell? ⟨w.heap.size, 14, none⟩ = some (.slice e1 r.fr.uri.ps.length y1) ∧ wx.cell? ⟨w.heap.size, 15, none⟩ = some (.slice e2 r.fr.uri.hs.length y2) ∧ wx.cell? ⟨w.heap.size, 16, none⟩ = some (.slice e3 r.fr.ps.length y3) ∧ wx.cell? ⟨w.heap.size, 17, none⟩ = some (.string (bs r.dst.disp)) ∧ wx.cell? ⟨w.heap.size, 18, none⟩ = some (.string (bs r.dst.uri.scheme)) ∧ wx.cell? ⟨w.heap.size, 19, none⟩ = some (.string (bs r.dst.uri.user)) ∧ wx.cell? ⟨w.heap.size, 20, none⟩ = some (.string (bs r.dst.uri.host)) ∧ wx.cell? ⟨w.heap.size, 21, none⟩ = some (.int .i64 r.dst.uri.port) ∧ wx.cell? ⟨w.heap.size, 22, none⟩ = some (.slice e4 r.dst.uri.ps.length y4) ∧ wx.cell? ⟨w.heap.size, 23, none⟩ = some (.slice e5 r.dst.uri.hs.length y5) ∧ wx.cell? ⟨w.heap.size, 24, none⟩ = some (.slice e6 r.dst.ps.length y6) ∧ wx.cell? ⟨w.heap.size, 32, none⟩ = some (.slice e7 r.contact.length y7) ∧ wx.cell? ⟨w.heap.size, 33, none⟩ = some (.slice e8 r.routes.length y8) from by
    have b := br0.call h
    rw [ers] at b
    exact ⟨boxedCell b 9, boxedCell b 10, boxedCell b 11, boxedCell b 12, boxedCell b 13, boxedCell b 14, boxedCell b 15, boxedCell b 16, boxedCell b 17, boxedCell b 18, boxedCell b 19, boxedCell b 20, boxedCell b 21, boxedCell b 22, boxedCell b 23, boxedCell b 24, boxedCell b 32, boxedCell b 33⟩))
  have hv := h8.form
  obtain ⟨ao, cap, e8, hm1, c1⟩ := hv
  unfold maxLen at hm1
  injection e8 with e8 _ e9
  subst e8 e9
  have HC1 := Lib.hid c1
  obtain ⟨n, hnn⟩ : ∃ n, n = r.routes.length := ⟨_, rfl⟩
  have hZ : Below w0.heap.size w0 w0 := Below.refl _ _
  have hBB := hB0
  obtain ⟨p9, p10, p11, p12, p13, p14, p15, p16, p17, p18, p19, p20, p21, p22, p23, p24, p32, p33⟩ := HX.out _ hZ
  have HN1 := fun h => smallR_not (r := r) h
  have HN2 := fun c h => smallR_one (r := r) (c := c) h
  obtain ⟨b1, hb1⟩ : ∃ b, b = fewA r.fr := ⟨_, rfl⟩
  obtain ⟨b2, hb2⟩ : ∃ b, b = fewA r.dst := ⟨_, rfl⟩
  rw [← hb1] at HF1 HN1 HN2
  rw [← hb2] at HF2 HN1 HN2
  have HN1 := Lib.hid HN1
  have HN2 := Lib.hid HN2
  have HB0 := Lib.hid hB0
  have HL := Lib.hid hl
  clear hw0 hr br0 ers h1 h2 h3 h4 h5 h6 h7 h8 c1 hb1 hb2 hl hB0 hnn
  go_enter Tryz.func11, Tryz.ntmps11
  go_upto_region 1 with fail
  rw [← HW0.out]
  go_wp2
  go_loopw [3, 4] (fun a i wr => ∃ k : Nat, k ≤ r.routes.length ∧ i = .int .i64 k ∧ a = .int .i64 ((r.routes.length + sumJ (r.routes.take k) : Nat) : Int) ∧ wr = w0) (fun _ i _ => r.routes.length - (intOf i).toNat)
  case atStart => exact ⟨0, Nat.zero_le _, rfl, by simp [sumJ], rfl⟩
  case round =>
    obtain ⟨k, hk, rfl, rfl, rfl⟩ := hrel
    have hs1 := hsm k
    by_cases hlt : k < r.routes.length
    · obtain ⟨b, off, eb, hbl, hc1⟩ := HC1.out (by omega)
      have x0 := hc1 k hlt
      have hxl := HL.out _ (List.getElem_mem hlt)
      have hst := sumJ_take r.routes k hlt
      have hcw : wr.cell? ⟨b, off + k, none⟩ = w.cell? ⟨b, off + k, none⟩ := World.cell?_of_block (w := w) (a := ⟨b, off + k, none⟩) (HB0.out.block b hbl)
      rw [← hcw] at x0
      obtain ⟨s, hs⟩ : ∃ s, s = r.routes[k] := ⟨_, rfl⟩
      rw [← hs] at x0 hxl hst
      subst eb
      have k0 : (0 : Int) ≤ (k : Int) := by omega
      have k1 : (k : Int) < (r.routes.length : Int) := by omega
      clear hc1 hcw hs
      go_wp2
      go_roundw
      case rel => exact ⟨k + 1, by omega, by go_num, by rw [hst]; go_num, (by first | rfl | trivial)⟩
      case measure => simp [intOf]; omega
    · have hk2 : r.routes.take k = r.routes := List.take_of_length_le (by omega)
      rw [hk2]
      clear hs1 hsm HC1 HL hsl
      obtain ⟨N, hN⟩ : ∃ N, N = r.routes.length + sumJ r.routes := ⟨_, rfl⟩
      rw [← hN] at HN1 HN2 ⊢
      clear hN hk2
      by_cases l3 : N ≤ 5000
      · have t3 : decide ((N : Int) ≤ 5000) = true := by simp; omega
        have s3 : decide (N ≤ 5000) = true := by simpa using l3
        rw [s3] at HN1 HN2
        clear l3 s3
        by_cases l4 : r.contact.length = 1
        · obtain ⟨c, hc⟩ : ∃ c, r.contact = [c] := List.length_eq_one_iff.1 l4
          have HS := Lib.hid (HN2.out c hc)
          have t4 : ((r.contact.length : Int) == 1) = true := by simp; omega
          have t5 : (0 : Int) < (r.contact.length : Int) := by omega
          obtain ⟨ao2, cap2, e2, _, c2⟩ := H7.out.form
          obtain ⟨b, off, eb, hbl, hcc⟩ := c2 (by omega)
          obtain ⟨k0, k1, k2, k3, k4, u1, u2, u3, k5, k6, k7, q1, q2, q3⟩ := hcc 0 (by omega)
          simp only [Nat.zero_mul, Nat.add_zero, hc, List.getElem_cons_zero] at k0 k1 k2 k3 k4 k5 k6 k7 q1 q2 q3
          injection e2 with e2 _ e3
          rw [eb] at e2
          subst e2 e3
          clear eb hcc c2
          obtain ⟨n1, m1, rfl⟩ := RPrms.formS q1
          obtain ⟨n2, m2, rfl⟩ := RPrms.formS q2
          obtain ⟨n3, m3, rfl⟩ := RPrms.formS q3
          unfold sv at k0 k1 k2 k3
          have HF5 := Lib.hid (fun (wx : World) (h : Below w.heap.size w wx) => few_c (bs c.disp) (bs c.uri.scheme) (bs c.uri.user) (bs c.uri.host) c.uri.port _ _ _ c.uri.ps c.uri.hs c.ps wx (q1.below h (Nat.le_refl _)) (q2.below h (Nat.le_refl _)) (q3.below h (Nat.le_refl _)))
          rw [show (decide (c.ps.length ≤ 60) && decide (c.uri.ps.length ≤ 60) && decide (c.uri.hs.length ≤ 60)) = fewA c from rfl] at HF5
          have HK := Lib.hid (fun (wx : World) (h : Below w.heap.size w wx) => (show wx.cell? ⟨b, off, none⟩ = some (.string (bs c.disp)) ∧ wx.cell? ⟨b, off + 1, none⟩ = some (.string (bs c.uri.scheme)) ∧ wx.cell? ⟨b, off + 2, none⟩ = some (.string (bs c.uri.user)) ∧ wx.cell? ⟨b, off + 3, none⟩ = some (.string (bs c.uri.host)) ∧ wx.cell? ⟨b, off + 4, none⟩ = some (.int .i64 c.uri.port) ∧ wx.cell? ⟨b, off + 5, none⟩ = some (.slice n1 c.uri.ps.length m1) ∧ wx.cell? ⟨b, off + 6, none⟩ = some (.slice n2 c.uri.hs.length m2) ∧ wx.cell? ⟨b, off + 7, none⟩ = some (.slice n3 c.ps.length m3) from by
            have hcw : ∀ o, wx.cell? ⟨b, o, none⟩ = w.cell? ⟨b, o, none⟩ := fun o => World.cell?_of_block (w := w) (a := ⟨b, o, none⟩) (h.block b hbl)
            rw [hcw, hcw, hcw, hcw, hcw, hcw, hcw, hcw]
            exact ⟨k0, k1, k2, k3, k4, k5, k6, k7⟩))
          clear k0 k1 k2 k3 k4 k5 k6 k7 q1 q2 q3 hc HN1 HN2 H7 hbl
          obtain ⟨b5, hb5⟩ : ∃ b, b = fewA c := ⟨_, rfl⟩
          rw [← hb5] at HF5 HS
          clear hb5
          obtain ⟨k0, k1, k2, k3, k4, k5, k6, k7⟩ := HK.out _ hBB
          cases b1 <;> cases b2 <;> cases b5
          all_goals
            go_wp2_with (go_at_call 28; first | ((with_reducible refine (HF1.out _ hBB).mono ?_); rintro e wx ⟨rfl, hC⟩; replace hZ := hZ.trans (hC.mono hZ.size); replace hBB := hBB.trans (hC.mono hBB.size); clear hC; clear p9 p10 p11 p12 p13 p14 p15 p16 p17 p18 p19 p20 p21 p22 p23 p24 p32 p33; obtain ⟨p9, p10, p11, p12, p13, p14, p15, p16, p17, p18, p19, p20, p21, p22, p23, p24, p32, p33⟩ := HX.out _ hZ; clear k0 k1 k2 k3 k4 k5 k6 k7; obtain ⟨k0, k1, k2, k3, k4, k5, k6, k7⟩ := HK.out _ hBB) | ((with_reducible refine (HF2.out _ hBB).mono ?_); rintro e wx ⟨rfl, hC⟩; replace hZ := hZ.trans (hC.mono hZ.size); replace hBB := hBB.trans (hC.mono hBB.size); clear hC; clear p9 p10 p11 p12 p13 p14 p15 p16 p17 p18 p19 p20 p21 p22 p23 p24 p32 p33; obtain ⟨p9, p10, p11, p12, p13, p14, p15, p16, p17, p18, p19, p20, p21, p22, p23, p24, p32, p33⟩ := HX.out _ hZ; clear k0 k1 k2 k3 k4 k5 k6 k7; obtain ⟨k0, k1, k2, k3, k4, k5, k6, k7⟩ := HK.out _ hBB) | ((with_reducible refine (HF5.out _ hBB).mono ?_); rintro e wx ⟨rfl, hC⟩; replace hZ := hZ.trans (hC.mono hZ.size); replace hBB := hBB.trans (hC.mono hBB.size); clear hC; clear p9 p10 p11 p12 p13 p14 p15 p16 p17 p18 p19 p20 p21 p22 p23 p24 p32 p33; obtain ⟨p9, p10, p11, p12, p13, p14, p15, p16, p17, p18, p19, p20, p21, p22, p23, p24, p32, p33⟩ := HX.out _ hZ; clear k0 k1 k2 k3 k4 k5 k6 k7; obtain ⟨k0, k1, k2, k3, k4, k5, k6, k7⟩ := HK.out _ hBB))
            all_goals
              go_ret
              exact ⟨by rw [HS.out]; rfl, hBB⟩
        · have HS := Lib.hid (HN1.out l4)
          have t4 : ((r.contact.length : Int) == 1) = false := by simp; omega
          have t4b : ((r.contact.length : Int) != 1) = true := by simp; omega
          have t4c : ¬ ((r.contact.length : Int) = 1) := by omega
          clear l4 HN1 HN2 H7
          cases b1 <;> cases b2
          all_goals
            go_wp2_with (go_at_call 28; first | ((with_reducible refine (HF1.out _ hBB).mono ?_); rintro e wx ⟨rfl, hC⟩; replace hZ := hZ.trans (hC.mono hZ.size); replace hBB := hBB.trans (hC.mono hBB.size); clear hC; clear p9 p10 p11 p12 p13 p14 p15 p16 p17 p18 p19 p20 p21 p22 p23 p24 p32 p33; obtain ⟨p9, p10, p11, p12, p13, p14, p15, p16, p17, p18, p19, p20, p21, p22, p23, p24, p32, p33⟩ := HX.out _ hZ) | ((with_reducible refine (HF2.out _ hBB).mono ?_); rintro e wx ⟨rfl, hC⟩; replace hZ := hZ.trans (hC.mono hZ.size); replace hBB := hBB.trans (hC.mono hBB.size); clear hC; clear p9 p10 p11 p12 p13 p14 p15 p16 p17 p18 p19 p20 p21 p22 p23 p24 p32 p33; obtain ⟨p9, p10, p11, p12, p13, p14, p15, p16, p17, p18, p19, p20, p21, p22, p23, p24, p32, p33⟩ := HX.out _ hZ))
            all_goals
              go_ret
              exact ⟨by rw [HS.out]; rfl, hBB⟩
      · have t3 : decide ((N : Int) ≤ 5000) = false := by simp; omega
        have s3 : decide (N ≤ 5000) = false := by simpa using l3
        rw [s3] at HN1 HN2
        have HS : Hid (smallR r = (b1 && b2 && false && false) ∨ smallR r = (b1 && b2 && false && true) ∨ ∃ x, smallR r = (b1 && b2 && false && x)) := by
          by_cases l4 : r.contact.length = 1
          · obtain ⟨c, hc⟩ := List.length_eq_one_iff.1 l4
            exact Lib.hid (.inr (.inr ⟨_, HN2.out c hc⟩))
          · exact Lib.hid (.inr (.inl (HN1.out l4)))
        have HS2 : Hid (smallR r = (b1 && b2 && false)) := by
          rcases HS.out with h | h | ⟨x, h⟩
          · rw [h]; exact Lib.hid (by cases b1 <;> cases b2 <;> rfl)
          · rw [h]; exact Lib.hid (by cases b1 <;> cases b2 <;> rfl)
          · rw [h]; exact Lib.hid (by cases b1 <;> cases b2 <;> rfl)
        clear l3 s3 HN1 HN2 H7 HS
        cases b1 <;> cases b2
        all_goals
          go_wp2_with (go_at_call 28; first | ((with_reducible refine (HF1.out _ hBB).mono ?_); rintro e wx ⟨rfl, hC⟩; replace hZ := hZ.trans (hC.mono hZ.size); replace hBB := hBB.trans (hC.mono hBB.size); clear hC; clear p9 p10 p11 p12 p13 p14 p15 p16 p17 p18 p19 p20 p21 p22 p23 p24 p32 p33; obtain ⟨p9, p10, p11, p12, p13, p14, p15, p16, p17, p18, p19, p20, p21, p22, p23, p24, p32, p33⟩ := HX.out _ hZ) | ((with_reducible refine (HF2.out _ hBB).mono ?_); rintro e wx ⟨rfl, hC⟩; replace hZ := hZ.trans (hC.mono hZ.size); replace hBB := hBB.trans (hC.mono hBB.size); clear hC; clear p9 p10 p11 p12 p13 p14 p15 p16 p17 p18 p19 p20 p21 p22 p23 p24 p32 p33; obtain ⟨p9, p10, p11, p12, p13, p14, p15, p16, p17, p18, p19, p20, p21, p22, p23, p24, p32, p33⟩ := HX.out _ hZ))
          all_goals
            go_ret
            exact ⟨by rw [HS2.out]; rfl, hBB⟩

end Go.Proofs.YtipdiddjhimdcaaGreatDoor

