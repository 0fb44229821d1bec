/- Contracts of Go functions, and plain laws. No condition but those told. -/
import Derived.Test.YtipdiddjhimdcaaGreatDoorBgk
set_option linter.unusedSimpArgs false
set_option linter.unusedVariables false
set_option maxRecDepth 100000
namespace Go.Proofs.YtipdiddjhimdcaaGreatDoor
open Go.RowKit Go.Sort
theorem all_set {vs : Array Value} {i : Nat} {x : Value} (h : (vs.toList.all fun v => v.oneCell') = true) (hx : x.oneCell' = true) : ((vs.setIfInBounds i x).toList.all fun v => v.oneCell') = true := by
 rw [List.all_eq_true] at h ⊢
 intro v hv
 rw [Array.toList_setIfInBounds] at hv
 rcases List.mem_or_eq_of_mem_set hv with g | rfl
 ·exact h v g
 ·exact hx
theorem all_setAll {vs : Array Value} (h : (vs.toList.all fun v => v.oneCell') = true) (i : Nat) {l : List Value} (hl : (l.all fun v => v.oneCell') = true) : ((setAll vs i l).toList.all fun v => v.oneCell') = true := by
 rw [List.all_eq_true] at h hl ⊢
 intro v hv
 rcases mem_setAll _ _ _ _ hv with g | g
 ·exact h v g
 ·exact hl v g
theorem off6 {g : Nat} {a b c : ByteArray} {n : Int} {u v : Value} (h1 : Off g u) (h2 : Off g v) : ∀ x ∈ [.string a, .string b, .string c, .int .i64 n, u, v], Off g x := by
 intro x hx
 simp only [List.mem_cons, List.not_mem_nil, or_false] at hx
 rcases hx with rfl | rfl | rfl | rfl | rfl | rfl
 ·exact Off.str g _
 ·exact Off.str g _
 ·exact Off.str g _
 ·exact Off.int g _
 ·exact h1
 ·exact h2
theorem takeS_cases (d : Dlg) (r : Rq) :
  (matchD d r = false ∧ takeS d r = (d, 6)) ∨ (matchD d r = true ∧ r.seq ≤ d.lin ∧ takeS d r = (d, 180)) ∨
  (matchD d r = true ∧ ¬ r.seq ≤ d.lin ∧ r.contact.length ≠ 1 ∧ takeS d r = (⟨d.call, d.loc, d.rem, d.tgt, d.routes, r.seq, d.lout⟩, 0)) ∨
  (matchD d r = true ∧ ¬ r.seq ≤ d.lin ∧ ∃ c, r.contact = [c] ∧ takeS d r = (⟨d.call, d.loc, d.rem, c.uri, d.routes, r.seq, d.lout⟩, 0)) := by
 unfold takeS
 cases hm : matchD d r
 ·exact .inl ⟨rfl, by rw [if_pos rfl]⟩
 refine .inr ?_
 rw [if_neg (by decide)]
 by_cases hs : r.seq ≤ d.lin
 ·exact .inl ⟨rfl, hs, by rw [if_pos hs]⟩
 refine .inr ?_
 rw [if_neg hs]
 unfold takeD
 match hc : r.contact with
 | [] => exact .inl ⟨rfl, hs, by simp, rfl⟩
 | [c] => exact .inr ⟨rfl, hs, c, rfl, rfl⟩
 | a :: b :: l => exact .inl ⟨rfl, hs, by simp, rfl⟩
set_option maxHeartbeats 6400000 in
theorem take_c (vs : Array Value) (vr : Value) (d : Dlg) (r : Rq) (w : World) (hd : RDlg w (.agg vs) d) (hr : RReq w vr r) (b1 : ∀ p ∈ d.loc.ps, p.name.length ≤ 4294967280) (b2 : ∀ p ∈ d.rem.ps, p.name.length ≤ 4294967280) (b3 : ∀ c ∈ r.contact, c.uri.ps.length ≤ 1099511627776 ∧ c.uri.hs.length ≤ 1099511627776) :
  Calls Tryz.prog 22 #[.agg vs, vr] w fun e w' => ∃ xs : Array Value, e = .returned (.tuple #[.agg xs, .int .i64 (takeS d r).2]) ∧ RDlg w' (.agg xs) (takeS d r).1 ∧ (∀ g, g < w.heap.size → DOff g vs → DOff g xs) ∧ Below w.heap.size w w' := by
 obtain ⟨vs', ev, s26, one, v24, _, hd⟩ := hd.row
 injection ev with ev
 subst ev
 obtain ⟨rs, rfl, s38, _, _, _, r28, ⟨ca, cc, r32, ha⟩, hr⟩ := hr.row
 have hcm : r.contact.length ≤ 2 ^ 63 - 1 := by obtain ⟨_, _, _, h, _⟩ := ha.form; exact h
 obtain ⟨Z, hZl⟩ : ∃ Z : Array Value, Z = #[(.string ⟨#[]⟩), (.string ⟨#[]⟩), (.string ⟨#[]⟩), (.string ⟨#[]⟩), (.string ⟨#[]⟩), (.int .i64 0), (.slice none 0 0), (.slice none 0 0), (.slice none 0 0), (.string ⟨#[]⟩), (.string ⟨#[]⟩), (.string ⟨#[]⟩), (.string ⟨#[]⟩), (.int .i64 0), (.slice none 0 0), (.slice none 0 0), (.slice none 0 0), (.string ⟨#[]⟩), (.string ⟨#[]⟩), (.string ⟨#[]⟩), (.int .i64 0), (.slice none 0 0), (.slice none 0 0), (.slice none 0 0), (.int .i64 0), (.int .i64 0)] := ⟨_, rfl⟩
 have z26 : Z.size = 26 := by rw [hZl]; rfl
 have hB0 : Below w.heap.size w (((w.alloc (.cells vs 34)).alloc (.cells rs 32)).alloc (.cells #[(.string ⟨#[]⟩), (.string ⟨#[]⟩), (.string ⟨#[]⟩), (.string ⟨#[]⟩), (.string ⟨#[]⟩), (.int .i64 0), (.slice none 0 0), (.slice none 0 0), (.slice none 0 0), (.string ⟨#[]⟩), (.string ⟨#[]⟩), (.string ⟨#[]⟩), (.string ⟨#[]⟩), (.int .i64 0), (.slice none 0 0), (.slice none 0 0), (.slice none 0 0), (.string ⟨#[]⟩), (.string ⟨#[]⟩), (.string ⟨#[]⟩), (.int .i64 0), (.slice none 0 0), (.slice none 0 0), (.slice none 0 0), (.int .i64 0), (.int .i64 0)] 34)) := (((Below.refl _ _).alloc (ρ _) _).alloc (by rw [World.size_alloc]; omega) _).alloc (by rw [World.size_alloc, World.size_alloc]; omega) _
 have bd0 : Blk (((w.alloc (.cells vs 34)).alloc (.cells rs 32)).alloc (.cells #[(.string ⟨#[]⟩), (.string ⟨#[]⟩), (.string ⟨#[]⟩), (.string ⟨#[]⟩), (.string ⟨#[]⟩), (.int .i64 0), (.slice none 0 0), (.slice none 0 0), (.slice none 0 0), (.string ⟨#[]⟩), (.string ⟨#[]⟩), (.string ⟨#[]⟩), (.string ⟨#[]⟩), (.int .i64 0), (.slice none 0 0), (.slice none 0 0), (.slice none 0 0), (.string ⟨#[]⟩), (.string ⟨#[]⟩), (.string ⟨#[]⟩), (.int .i64 0), (.slice none 0 0), (.slice none 0 0), (.slice none 0 0), (.int .i64 0), (.int .i64 0)] 34)) (w.heap.size) 34 vs := ((Blk.new w 34 vs).alloc _).alloc _
 have br0 : Blk (((w.alloc (.cells vs 34)).alloc (.cells rs 32)).alloc (.cells #[(.string ⟨#[]⟩), (.string ⟨#[]⟩), (.string ⟨#[]⟩), (.string ⟨#[]⟩), (.string ⟨#[]⟩), (.int .i64 0), (.slice none 0 0), (.slice none 0 0), (.slice none 0 0), (.string ⟨#[]⟩), (.string ⟨#[]⟩), (.string ⟨#[]⟩), (.string ⟨#[]⟩), (.int .i64 0), (.slice none 0 0), (.slice none 0 0), (.slice none 0 0), (.string ⟨#[]⟩), (.string ⟨#[]⟩), (.string ⟨#[]⟩), (.int .i64 0), (.slice none 0 0), (.slice none 0 0), (.slice none 0 0), (.int .i64 0), (.int .i64 0)] 34)) (w.heap.size + 1) 32 rs := by
  have := (Blk.new (w.alloc (.cells vs 34)) 32 rs).alloc (.cells #[(.string ⟨#[]⟩), (.string ⟨#[]⟩), (.string ⟨#[]⟩), (.string ⟨#[]⟩), (.string ⟨#[]⟩), (.int .i64 0), (.slice none 0 0), (.slice none 0 0), (.slice none 0 0), (.string ⟨#[]⟩), (.string ⟨#[]⟩), (.string ⟨#[]⟩), (.string ⟨#[]⟩), (.int .i64 0), (.slice none 0 0), (.slice none 0 0), (.slice none 0 0), (.string ⟨#[]⟩), (.string ⟨#[]⟩), (.string ⟨#[]⟩), (.int .i64 0), (.slice none 0 0), (.slice none 0 0), (.slice none 0 0), (.int .i64 0), (.int .i64 0)] 34)
  rwa [World.size_alloc] at this
 have bz0 : Blk (((w.alloc (.cells vs 34)).alloc (.cells rs 32)).alloc (.cells #[(.string ⟨#[]⟩), (.string ⟨#[]⟩), (.string ⟨#[]⟩), (.string ⟨#[]⟩), (.string ⟨#[]⟩), (.int .i64 0), (.slice none 0 0), (.slice none 0 0), (.slice none 0 0), (.string ⟨#[]⟩), (.string ⟨#[]⟩), (.string ⟨#[]⟩), (.string ⟨#[]⟩), (.int .i64 0), (.slice none 0 0), (.slice none 0 0), (.slice none 0 0), (.string ⟨#[]⟩), (.string ⟨#[]⟩), (.string ⟨#[]⟩), (.int .i64 0), (.slice none 0 0), (.slice none 0 0), (.slice none 0 0), (.int .i64 0), (.int .i64 0)] 34)) (w.heap.size + 1 + 1) 34 Z := by
  have := Blk.new ((w.alloc (.cells vs 34)).alloc (.cells rs 32)) 34 #[(.string ⟨#[]⟩), (.string ⟨#[]⟩), (.string ⟨#[]⟩), (.string ⟨#[]⟩), (.string ⟨#[]⟩), (.int .i64 0), (.slice none 0 0), (.slice none 0 0), (.slice none 0 0), (.string ⟨#[]⟩), (.string ⟨#[]⟩), (.string ⟨#[]⟩), (.string ⟨#[]⟩), (.int .i64 0), (.slice none 0 0), (.slice none 0 0), (.slice none 0 0), (.string ⟨#[]⟩), (.string ⟨#[]⟩), (.string ⟨#[]⟩), (.int .i64 0), (.slice none 0 0), (.slice none 0 0), (.slice none 0 0), (.int .i64 0), (.int .i64 0)]
  rw [World.size_alloc, World.size_alloc] at this
  rw [hZl]; exact this
 have hs3 : (((w.alloc (.cells vs 34)).alloc (.cells rs 32)).alloc (.cells #[(.string ⟨#[]⟩), (.string ⟨#[]⟩), (.string ⟨#[]⟩), (.string ⟨#[]⟩), (.string ⟨#[]⟩), (.int .i64 0), (.slice none 0 0), (.slice none 0 0), (.slice none 0 0), (.string ⟨#[]⟩), (.string ⟨#[]⟩), (.string ⟨#[]⟩), (.string ⟨#[]⟩), (.int .i64 0), (.slice none 0 0), (.slice none 0 0), (.slice none 0 0), (.string ⟨#[]⟩), (.string ⟨#[]⟩), (.string ⟨#[]⟩), (.int .i64 0), (.slice none 0 0), (.slice none 0 0), (.slice none 0 0), (.int .i64 0), (.int .i64 0)] 34)).heap.size = w.heap.size + 3 := by rw [World.size_alloc, World.size_alloc, World.size_alloc]
 obtain ⟨w0, hw0⟩ : ∃ w0, w0 = (((w.alloc (.cells vs 34)).alloc (.cells rs 32)).alloc (.cells #[(.string ⟨#[]⟩), (.string ⟨#[]⟩), (.string ⟨#[]⟩), (.string ⟨#[]⟩), (.string ⟨#[]⟩), (.int .i64 0), (.slice none 0 0), (.slice none 0 0), (.slice none 0 0), (.string ⟨#[]⟩), (.string ⟨#[]⟩), (.string ⟨#[]⟩), (.string ⟨#[]⟩), (.int .i64 0), (.slice none 0 0), (.slice none 0 0), (.slice none 0 0), (.string ⟨#[]⟩), (.string ⟨#[]⟩), (.string ⟨#[]⟩), (.int .i64 0), (.slice none 0 0), (.slice none 0 0), (.slice none 0 0), (.int .i64 0), (.int .i64 0)] 34)) := ⟨_, rfl⟩
 rw [← hw0] at hB0 bd0 br0 bz0 hs3
 have HW0 := κ hw0
 have HS3 := κ hs3
 have HM := κ (match_c _ _ d r w0 (hd.below hB0 (ρ _)) (hr.below hB0 (ρ _)) b1 b2)
 have HX := κ (fun (wx : World) (h : Below w0.heap.size w0 wx) => (show Blk wx (w.heap.size) 34 vs ∧ Blk wx (w.heap.size + 1) 32 rs ∧ Blk wx (w.heap.size + 1 + 1) 34 Z ∧ Below w.heap.size w wx from
  ⟨bd0.call h, br0.call h, bz0.call h, hB0.trans (h.mono hB0.size)⟩))
 have HA := κ ha
 have HD := κ hd
 have hcs := takeS_cases d r
 have hZ : Below w0.heap.size w0 w0 := Below.refl _ _
 obtain ⟨bd, br, bz, hBB⟩ := HX.out _ hZ
 clear hw0 hB0 bd0 br0 bz0 hs3 ha hd hr b1 b2 hZl
 rcases hcs with ⟨hm, hT⟩ | ⟨hm, hs, hT⟩ | ⟨hm, hs, hl, hT⟩ | ⟨hm, hs, c, hc, hT⟩
 ·rw [hm] at HM
  rw [hT]
  dsimp only
  clear hm hT
  go_enter Tryz.func22, Tryz.ntmps22
  go_upto_region 1 with fail
  rw [← HW0.out]
  refine wp_region_lit ?_
  refine wpList_loadB (vs := vs) rfl rfl rfl Tryz.underlying34 (by rw [s26]; rfl) bd (whole _) ?_
  refine wpList_loadB (vs := rs) rfl rfl rfl Tryz.underlying32 (by rw [s38]; rfl) br (whole _) ?_
  go_upto_region 2 with (go_at_call 24; refine HM.out.mono ?_; rintro e w1 ⟨rfl, hC1⟩; have hZ := hC1; clear bd br bz hBB; obtain ⟨bd, br, bz, hBB⟩ := HX.out _ hZ)
  refine wp_region_lit ?_
  refine wpList_loadB (vs := vs) rfl rfl rfl Tryz.underlying34 (by rw [s26]; rfl) bd (whole _) ?_
  refine wpList_storeB (vs := vs) (cs' := vs) rfl rfl rfl rfl (by rw [s26]; rfl) bz (by rw [s26, z26]; omega) one (setAll_whole (by rw [z26, s26])) ?_
  intro w9 bz9 hfar9 hsz9 hbel9
  go_wp2
  refine bodyPost_ret (results_ct rfl rfl rfl Tryz.underlying34 (by rw [s26]; rfl) bz9) rfl ?_
  have HBf := hBB.trans (hbel9 _ (by omega))
  exact ⟨_, rfl, HD.out.below HBf (ρ _), fun _ _ h => h, HBf⟩
 ·rw [hm] at HM
  rw [hT]
  dsimp only
  clear hm hT
  go_enter Tryz.func22, Tryz.ntmps22
  go_upto_region 1 with fail
  rw [← HW0.out]
  refine wp_region_lit ?_
  refine wpList_loadB (vs := vs) rfl rfl rfl Tryz.underlying34 (by rw [s26]; rfl) bd (whole _) ?_
  refine wpList_loadB (vs := rs) rfl rfl rfl Tryz.underlying32 (by rw [s38]; rfl) br (whole _) ?_
  go_upto_region 3 with (go_at_call 24; refine HM.out.mono ?_; rintro e w1 ⟨rfl, hC1⟩; have hZ := hC1; clear bd br bz hBB; obtain ⟨bd, br, bz, hBB⟩ := HX.out _ hZ)
  have p24 := (boxedCell bd 24).trans v24; have f24 := boxedFree bd 24; have x28 := (boxedCell br 28).trans r28; have x32 := (boxedCell br 32).trans r32
  go_upto_region 4 with fail
  refine wp_region_lit ?_
  refine wpList_loadB (vs := vs) rfl rfl rfl Tryz.underlying34 (by rw [s26]; rfl) bd (whole _) ?_
  refine wpList_storeB (vs := vs) (cs' := vs) rfl rfl rfl rfl (by rw [s26]; rfl) bz (by rw [s26, z26]; omega) one (setAll_whole (by rw [z26, s26])) ?_
  intro w9 bz9 hfar9 hsz9 hbel9
  go_wp2
  refine bodyPost_ret (results_ct rfl rfl rfl Tryz.underlying34 (by rw [s26]; rfl) bz9) rfl ?_
  have HBf := hBB.trans (hbel9 _ (by omega))
  exact ⟨_, rfl, HD.out.below HBf (ρ _), fun _ _ h => h, HBf⟩
 ·rw [hm] at HM
  rw [hT]
  dsimp only
  have tl : ((r.contact.length : Int) == 1) = false := by simp; omega
  clear hm hT hl
  go_enter Tryz.func22, Tryz.ntmps22
  go_upto_region 1 with fail
  rw [← HW0.out]
  refine wp_region_lit ?_
  refine wpList_loadB (vs := vs) rfl rfl rfl Tryz.underlying34 (by rw [s26]; rfl) bd (whole _) ?_
  refine wpList_loadB (vs := rs) rfl rfl rfl Tryz.underlying32 (by rw [s38]; rfl) br (whole _) ?_
  go_upto_region 3 with (go_at_call 24; refine HM.out.mono ?_; rintro e w1 ⟨rfl, hC1⟩; have hZ := hC1; clear bd br bz hBB; obtain ⟨bd, br, bz, hBB⟩ := HX.out _ hZ)
  have p24 := (boxedCell bd 24).trans v24; have f24 := boxedFree bd 24; have x28 := (boxedCell br 28).trans r28; have x32 := (boxedCell br 32).trans r32
  have hB2 := hBB.setCell (p := ⟨w.heap.size, 24, none⟩) (ρ _) (.int .i64 r.seq)
  have bd2 : Blk _ (w.heap.size) 34 (vs.setIfInBounds 24 (.int .i64 r.seq)) := bd.set_ 24 (.int .i64 r.seq)
  have br2 := br.far (p := ⟨w.heap.size, 24, none⟩) (show w.heap.size + 1 ≠ w.heap.size by omega) (.int .i64 r.seq)
  have bz2 := bz.far (p := ⟨w.heap.size, 24, none⟩) (show w.heap.size + 1 + 1 ≠ w.heap.size by omega) (.int .i64 r.seq)
  have HD2 := κ (HD.out.setLin r.seq)
  have one2 : ((vs.setIfInBounds 24 (.int .i64 r.seq)).toList.all fun v => v.oneCell') = true := all_set one rfl
  have s26' : (vs.setIfInBounds 24 (.int .i64 r.seq)).size = 26 := by rw [Array.size_setIfInBounds, s26]
  have HO := κ (fun g (h : DOff g vs) => h.set 24 (Off.int g r.seq))
  obtain ⟨ws, hws⟩ : ∃ x, x = vs.setIfInBounds 24 (.int .i64 r.seq) := ⟨_, rfl⟩
  rw [← hws] at bd2 HD2 one2 s26' HO
  obtain ⟨w2, hw2⟩ : ∃ x, x = (w1.setCell ⟨w.heap.size, 24, none⟩ (.int .i64 r.seq)) := ⟨_, rfl⟩
  rw [← hw2] at hB2 bd2 br2 bz2
  go_upto_region 6 with fail
  rw [← hw2]
  clear hw2
  have x32 := (boxedCell br2 32).trans r32
  go_upto_region 8 with fail
  refine wp_region_lit ?_
  refine wpList_loadB (vs := ws) rfl rfl rfl Tryz.underlying34 (by rw [s26']; rfl) bd2 (whole _) ?_
  refine wpList_storeB (vs := ws) (cs' := ws) rfl rfl rfl rfl (by rw [s26']; rfl) bz2 (by rw [s26', z26]; omega) one2 (setAll_whole (by rw [z26, s26'])) ?_
  intro w9 bz9 hfar9 hsz9 hbel9
  go_wp2
  refine bodyPost_ret (results_ct rfl rfl rfl Tryz.underlying34 (by rw [s26']; rfl) bz9) rfl ?_
  have HBf := hB2.trans (hbel9 _ (by omega))
  exact ⟨_, rfl, HD2.out.below HBf (ρ _), fun g _ h => HO.out g h, HBf⟩
 ·rw [hm] at HM
  rw [hT]
  dsimp only
  have b3' := b3 c (by rw [hc]; exact List.mem_singleton.2 rfl)
  have tl : r.contact.length = 1 := by rw [hc]; rfl
  rw [hc] at HA
  rw [tl] at r32
  clear hm hT b3
  go_enter Tryz.func22, Tryz.ntmps22
  go_upto_region 1 with fail
  rw [← HW0.out]
  refine wp_region_lit ?_
  refine wpList_loadB (vs := vs) rfl rfl rfl Tryz.underlying34 (by rw [s26]; rfl) bd (whole _) ?_
  refine wpList_loadB (vs := rs) rfl rfl rfl Tryz.underlying32 (by rw [s38]; rfl) br (whole _) ?_
  go_upto_region 3 with (go_at_call 24; refine HM.out.mono ?_; rintro e w1 ⟨rfl, hC1⟩; have hZ := hC1; clear bd br bz hBB; obtain ⟨bd, br, bz, hBB⟩ := HX.out _ hZ)
  have p24 := (boxedCell bd 24).trans v24; have f24 := boxedFree bd 24; have x28 := (boxedCell br 28).trans r28; have x32 := (boxedCell br 32).trans r32
  have hB2 := hBB.setCell (p := ⟨w.heap.size, 24, none⟩) (ρ _) (.int .i64 r.seq)
  have bd2 : Blk _ (w.heap.size) 34 (vs.setIfInBounds 24 (.int .i64 r.seq)) := bd.set_ 24 (.int .i64 r.seq)
  have br2 := br.far (p := ⟨w.heap.size, 24, none⟩) (show w.heap.size + 1 ≠ w.heap.size by omega) (.int .i64 r.seq)
  have bz2 := bz.far (p := ⟨w.heap.size, 24, none⟩) (show w.heap.size + 1 + 1 ≠ w.heap.size by omega) (.int .i64 r.seq)
  have HD2 := κ (HD.out.setLin r.seq)
  have one2 : ((vs.setIfInBounds 24 (.int .i64 r.seq)).toList.all fun v => v.oneCell') = true := all_set one rfl
  have s26' : (vs.setIfInBounds 24 (.int .i64 r.seq)).size = 26 := by rw [Array.size_setIfInBounds, s26]
  have HO := κ (fun g (h : DOff g vs) => h.set 24 (Off.int g r.seq))
  obtain ⟨ws, hws⟩ : ∃ x, x = vs.setIfInBounds 24 (.int .i64 r.seq) := ⟨_, rfl⟩
  rw [← hws] at bd2 HD2 one2 s26' HO
  obtain ⟨w2, hw2⟩ : ∃ x, x = (w1.setCell ⟨w.heap.size, 24, none⟩ (.int .i64 r.seq)) := ⟨_, rfl⟩
  rw [← hw2] at hB2 bd2 br2 bz2
  go_upto_region 6 with fail
  rw [← hw2]
  clear hw2
  have x32 := (boxedCell br2 32).trans r32
  obtain ⟨ao2, cap2, e2, _, c2⟩ := HA.out.form
  obtain ⟨b, off, eb, hbl, hcc⟩ := c2 (by simp)
  obtain ⟨_, k1, k2, k3, k4, s1, s2, _, k5, k6, _, q1, q2, _⟩ := hcc 0 (by simp)
  simp only [Nat.zero_mul, Nat.add_zero, List.getElem_cons_zero] at k1 k2 k3 k4 k5 k6 q1 q2
  have hcw : ∀ o, w2.cell? ⟨b, o, none⟩ = w.cell? ⟨b, o, none⟩ := fun o => World.cell?_of_block (w := w) (a := ⟨b, o, none⟩) (hB2.block b hbl)
  rw [← hcw] at k1 k2 k3 k4 k5 k6
  injection e2 with e2 _ _
  rw [eb] at e2
  subst e2
  clear eb hcc c2 hcw
  obtain ⟨n1, d1, rfl⟩ := q1.form'
  obtain ⟨n2, d2, rfl⟩ := q2.form'
  have Q1 := κ q1
  have Q2 := κ q2
  clear q1 q2
  unfold sv at k1 k2 k3
  have HB2 := κ hB2
  have hlt2 := bz2.lt
  go_wp2_with (first | (go_at_call 34; refine (cloned_c _ _ _ _ _ _ c.uri.ps c.uri.hs w2 (Q1.out.below HB2.out (ρ _)) (Q2.out.below HB2.out (ρ _)) b3'.1 b3'.2).mono ?_; rintro e w3 ⟨v1, v2, rfl, R1, R2, hF1, hF2, hC3⟩; obtain ⟨a1, g1, rfl⟩ := R1.form'; obtain ⟨a2, g2, rfl⟩ := R2.form'; replace bd2 := bd2.call hC3; replace bz2 := bz2.call hC3; replace hB2 := hB2.trans (hC3.mono hB2.size)) | (with_reducible refine holdStore 24 rfl ?_))
  unfold Hold
  refine wpList_storeB (vs := #[.string (bs c.uri.scheme), .string (bs c.uri.user), .string (bs c.uri.host), .int .i64 c.uri.port, .slice a1 c.uri.ps.length g1, .slice a2 c.uri.hs.length g2]) rfl rfl rfl rfl (by kernel_rfl) bd2 (by rw [s26']; exact Nat.le_of_ble_eq_true rfl) rfl rfl ?_
  intro w8 bd8 hfar8 hsz8 hbel8
  have bz8 : Blk w8 (w.heap.size + 1 + 1) 34 Z := (hfar8 _ (by omega)).trans bz2
  have sx : (setAll ws 17 #[.string (bs c.uri.scheme), .string (bs c.uri.user), .string (bs c.uri.host), .int .i64 c.uri.port, .slice a1 c.uri.ps.length g1, .slice a2 c.uri.hs.length g2].toList).size = 26 := by rw [setAll_size, s26']
  have onex : ((setAll ws 17 #[.string (bs c.uri.scheme), .string (bs c.uri.user), .string (bs c.uri.host), .int .i64 c.uri.port, .slice a1 c.uri.ps.length g1, .slice a2 c.uri.hs.length g2].toList).toList.all fun v => v.oneCell') = true := all_setAll one2 17 rfl
  have HOX := κ (fun g (h : DOff g vs) (h1 : Off g (Value.slice a1 c.uri.ps.length g1)) (h2 : Off g (Value.slice a2 c.uri.hs.length g2)) => (HO.out g h).setAll 17 (l := #[.string (bs c.uri.scheme), .string (bs c.uri.user), .string (bs c.uri.host), .int .i64 c.uri.port, .slice a1 c.uri.ps.length g1, .slice a2 c.uri.hs.length g2].toList) (off6 h1 h2))
  have HSX := κ (fun wx (h : RDlg wx (.agg ws) ⟨d.call, d.loc, d.rem, d.tgt, d.routes, r.seq, d.lout⟩) i1 i2 => h.setTgt c.uri (q1 := .slice a1 c.uri.ps.length g1) (q2 := .slice a2 c.uri.hs.length g2) i1 i2)
  obtain ⟨xs, hxs⟩ : ∃ x, x = setAll ws 17 #[.string (bs c.uri.scheme), .string (bs c.uri.user), .string (bs c.uri.host), .int .i64 c.uri.port, .slice a1 c.uri.ps.length g1, .slice a2 c.uri.hs.length g2].toList := ⟨_, rfl⟩
  rw [← hxs] at bd8 sx onex HOX
  have hxs2 : xs = setAll ws 17 [.string (bs c.uri.scheme), .string (bs c.uri.user), .string (bs c.uri.host), .int .i64 c.uri.port, .slice a1 c.uri.ps.length g1, .slice a2 c.uri.hs.length g2] := hxs
  rw [← hxs2] at HSX
  clear hxs hxs2
  go_upto_region 8 with fail
  refine wp_region_lit ?_
  refine wpList_loadB (vs := xs) rfl rfl rfl Tryz.underlying34 (by rw [sx]; rfl) bd8 (whole _) ?_
  refine wpList_storeB (vs := xs) (cs' := xs) rfl rfl rfl rfl (by rw [sx]; rfl) bz8 (by rw [sx, z26]; omega) onex (setAll_whole (by rw [z26, sx])) ?_
  intro w9 bz9 hfar9 hsz9 hbel9
  go_wp2
  refine bodyPost_ret (results_ct rfl rfl rfl Tryz.underlying34 (by rw [sx]; rfl) bz9) rfl ?_
  have HBf := (hB2.trans (hbel8 _ (ρ _))).trans (hbel9 _ (by omega))
  have o1 : ∀ g, g < w2.heap.size → Off g (.slice a1 c.uri.ps.length g1) := fun g h => Off.fresh hF1 h
  have o2 : ∀ g, g < w2.heap.size → Off g (.slice a2 c.uri.hs.length g2) := fun g h => Off.fresh hF2 h
  have R1' := Off.prms (Off.prms R1 (o1 _ (by omega)) hfar8 (Nat.le_of_eq hsz8.symm)) (o1 _ hlt2) hfar9 (Nat.le_of_eq hsz9.symm)
  have R2' := Off.prms (Off.prms R2 (o2 _ (by omega)) hfar8 (Nat.le_of_eq hsz8.symm)) (o2 _ hlt2) hfar9 (Nat.le_of_eq hsz9.symm)
  exact ⟨_, rfl, HSX.out _ (HD2.out.below HBf (ρ _)) R1' R2', fun g hg h => HOX.out g h (o1 g (by omega)) (o2 g (by omega)), HBf⟩
end Go.Proofs.YtipdiddjhimdcaaGreatDoor
