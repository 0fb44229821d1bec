/-
  Packed: XTk, XAw18, XOpen, XOpi, XRis, XFrame.
-/
import Derived.Test.YtipdiddjhimdcaaGreatDoorK17
import Derived.Test.YtipdiddjhimdcaaGreatDoorK18
import Derived.Test.YtipdiddjhimdcaaGreatDoorRows
import Derived.Test.YtipdiddjhimdcaaGreatDoorK01
import Derived.SliceStrings
import Derived.SizedLaws
import Derived.OpenShut
import Derived.ProofKit
import Derived.Lib.SmallJoins
import Derived.ChangeSlices
import Derived.Test.YtipdiddjhimdcaaGreatDoorCards
import Derived.Test.YtipdiddjhimdcaaGreatDoorTie
import Derived.Test.YtipdiddjhimdcaaGreatDoorShelf
import Derived.WalkKit
import Derived.ShutString
import Derived.JoinedCond
import Derived.Deep.DeepHandedRow
import Derived.Lib.LaidTab
import Derived.Lib.LaidIn
import Derived.Lib.LaidU8T
namespace Go.Proofs.YtipdiddjhimdcaaGreatDoor
set_option linter.unusedSimpArgs false
set_option linter.unusedVariables false
open Go.RowKit Go.Sort


theorem all_set {vs : Array Value} {i : Nat} {x : Value} (h : (vs.toList.all fun v => v.oneCell') = true) (hx : x.oneCell' = true) : ((vs.setIfInBounds i x).toList.all fun v => v.oneCell') = true := by
  rw [List.all_eq_true] at h ⊢
  intro v hv
  rw [Array.toList_setIfInBounds] at hv
  rcases List.mem_or_eq_of_mem_set hv with g | rfl
  · exact h v g
  · exact hx
theorem all_setAll {vs : Array Value} (h : (vs.toList.all fun v => v.oneCell') = true) (i : Nat) {l : List Value} (hl : (l.all fun v => v.oneCell') = true) : ((setAll vs i l).toList.all fun v => v.oneCell') = true := by
  rw [List.all_eq_true] at h hl ⊢
  intro v hv
  rcases mem_setAll _ _ _ _ hv with g | g
  · exact h v g
  · exact hl v g
theorem off6 {g : Nat} {a b c : ByteArray} {n : Int} {u v : Value} (h1 : Off g u) (h2 : Off g v) : ∀ x ∈ [.string a, .string b, .string c, .int .i64 n, u, v], Off g x := by
  intro x hx
  simp only [List.mem_cons, List.not_mem_nil, or_false] at hx
  rcases hx with rfl | rfl | rfl | rfl | rfl | rfl
  · exact Off.str g _
  · exact Off.str g _
  · exact Off.str g _
  · exact Off.int g _
  · exact h1
  · exact h2
theorem takeS_cases (d : Dlg) (r : Rq) :
    (matchD d r = false ∧ takeS d r = (d, 6)) ∨ (matchD d r = true ∧ r.seq ≤ d.lin ∧ takeS d r = (d, 180)) ∨
    (matchD d r = true ∧ ¬ r.seq ≤ d.lin ∧ r.contact.length ≠ 1 ∧ takeS d r = (⟨d.call, d.loc, d.rem, d.tgt, d.routes, r.seq, d.lout⟩, 0)) ∨
    (matchD d r = true ∧ ¬ r.seq ≤ d.lin ∧ ∃ c, r.contact = [c] ∧ takeS d r = (⟨d.call, d.loc, d.rem, c.uri, d.routes, r.seq, d.lout⟩, 0)) := by
  unfold takeS
  cases hm : matchD d r
  · exact .inl ⟨rfl, by rw [if_pos rfl]⟩
  refine .inr ?_
  rw [if_neg (by decide)]
  by_cases hs : r.seq ≤ d.lin
  · exact .inl ⟨rfl, hs, by rw [if_pos hs]⟩
  refine .inr ?_
  rw [if_neg hs]
  unfold takeD
  match hc : r.contact with
  | [] => exact .inl ⟨rfl, hs, by simp, rfl⟩
  | [c] => exact .inr ⟨rfl, hs, c, rfl, rfl⟩
  | a :: b :: l => exact .inl ⟨rfl, hs, by simp, rfl⟩

set_option maxRecDepth 100000 in
set_option maxHeartbeats 6400000 in
theorem take_c (vs : Array Value) (vr : Value) (d : Dlg) (r : Rq) (w : World) (hd : RDlg w (.agg vs) d) (hr : RReq w vr r) (b1 : ∀ p ∈ d.loc.ps, p.name.length ≤ 4294967280) (b2 : ∀ p ∈ d.rem.ps, p.name.length ≤ 4294967280) (b3 : ∀ c ∈ r.contact, c.uri.ps.length ≤ 1099511627776 ∧ c.uri.hs.length ≤ 1099511627776) :
    Calls Tryz.prog 22 #[.agg vs, vr] w fun e w' => ∃ xs : Array Value, e = .returned (.tuple #[.agg xs, .int .i64 (takeS d r).2]) ∧ RDlg w' (.agg xs) (takeS d r).1 ∧ (∀ g, g < w.heap.size → DOff g vs → DOff g xs) ∧ Below w.heap.size w w' := by
  obtain ⟨vs', ev, s26, one, v24, _, hd⟩ := hd.row
  injection ev with ev
  subst ev
  obtain ⟨rs, rfl, s38, _, _, _, r28, ⟨ca, cc, r32, ha⟩, hr⟩ := hr.row
  have hcm : r.contact.length ≤ 2 ^ 63 - 1 := by obtain ⟨_, _, _, h, _⟩ := ha.form; exact h
  obtain ⟨Z, hZl⟩ : ∃ Z : Array Value, Z = #[(.string ⟨#[]⟩), (.string ⟨#[]⟩), (.string ⟨#[]⟩), (.string ⟨#[]⟩), (.string ⟨#[]⟩), (.int .i64 0), (.slice none 0 0), (.slice none 0 0), (.slice none 0 0), (.string ⟨#[]⟩), (.string ⟨#[]⟩), (.string ⟨#[]⟩), (.string ⟨#[]⟩), (.int .i64 0), (.slice none 0 0), (.slice none 0 0), (.slice none 0 0), (.string ⟨#[]⟩), (.string ⟨#[]⟩), (.string ⟨#[]⟩), (.int .i64 0), (.slice none 0 0), (.slice none 0 0), (.slice none 0 0), (.int .i64 0), (.int .i64 0)] := ⟨_, rfl⟩
  have z26 : Z.size = 26 := by rw [hZl]; rfl
  have hB0 : Below w.heap.size w (((w.alloc (.cells vs 34)).alloc (.cells rs 32)).alloc (.cells #[(.string ⟨#[]⟩), (.string ⟨#[]⟩), (.string ⟨#[]⟩), (.string ⟨#[]⟩), (.string ⟨#[]⟩), (.int .i64 0), (.slice none 0 0), (.slice none 0 0), (.slice none 0 0), (.string ⟨#[]⟩), (.string ⟨#[]⟩), (.string ⟨#[]⟩), (.string ⟨#[]⟩), (.int .i64 0), (.slice none 0 0), (.slice none 0 0), (.slice none 0 0), (.string ⟨#[]⟩), (.string ⟨#[]⟩), (.string ⟨#[]⟩), (.int .i64 0), (.slice none 0 0), (.slice none 0 0), (.slice none 0 0), (.int .i64 0), (.int .i64 0)] 34)) := (((Below.refl _ _).alloc (Nat.le_refl _) _).alloc (by rw [World.size_alloc]; omega) _).alloc (by rw [World.size_alloc, World.size_alloc]; omega) _
  have bd0 : Blk (((w.alloc (.cells vs 34)).alloc (.cells rs 32)).alloc (.cells #[(.string ⟨#[]⟩), (.string ⟨#[]⟩), (.string ⟨#[]⟩), (.string ⟨#[]⟩), (.string ⟨#[]⟩), (.int .i64 0), (.slice none 0 0), (.slice none 0 0), (.slice none 0 0), (.string ⟨#[]⟩), (.string ⟨#[]⟩), (.string ⟨#[]⟩), (.string ⟨#[]⟩), (.int .i64 0), (.slice none 0 0), (.slice none 0 0), (.slice none 0 0), (.string ⟨#[]⟩), (.string ⟨#[]⟩), (.string ⟨#[]⟩), (.int .i64 0), (.slice none 0 0), (.slice none 0 0), (.slice none 0 0), (.int .i64 0), (.int .i64 0)] 34)) (w.heap.size) 34 vs := ((Blk.new w 34 vs).alloc _).alloc _
  have br0 : Blk (((w.alloc (.cells vs 34)).alloc (.cells rs 32)).alloc (.cells #[(.string ⟨#[]⟩), (.string ⟨#[]⟩), (.string ⟨#[]⟩), (.string ⟨#[]⟩), (.string ⟨#[]⟩), (.int .i64 0), (.slice none 0 0), (.slice none 0 0), (.slice none 0 0), (.string ⟨#[]⟩), (.string ⟨#[]⟩), (.string ⟨#[]⟩), (.string ⟨#[]⟩), (.int .i64 0), (.slice none 0 0), (.slice none 0 0), (.slice none 0 0), (.string ⟨#[]⟩), (.string ⟨#[]⟩), (.string ⟨#[]⟩), (.int .i64 0), (.slice none 0 0), (.slice none 0 0), (.slice none 0 0), (.int .i64 0), (.int .i64 0)] 34)) (w.heap.size + 1) 32 rs := by
    have := (Blk.new (w.alloc (.cells vs 34)) 32 rs).alloc (.cells #[(.string ⟨#[]⟩), (.string ⟨#[]⟩), (.string ⟨#[]⟩), (.string ⟨#[]⟩), (.string ⟨#[]⟩), (.int .i64 0), (.slice none 0 0), (.slice none 0 0), (.slice none 0 0), (.string ⟨#[]⟩), (.string ⟨#[]⟩), (.string ⟨#[]⟩), (.string ⟨#[]⟩), (.int .i64 0), (.slice none 0 0), (.slice none 0 0), (.slice none 0 0), (.string ⟨#[]⟩), (.string ⟨#[]⟩), (.string ⟨#[]⟩), (.int .i64 0), (.slice none 0 0), (.slice none 0 0), (.slice none 0 0), (.int .i64 0), (.int .i64 0)] 34)
    rwa [World.size_alloc] at this
  have bz0 : Blk (((w.alloc (.cells vs 34)).alloc (.cells rs 32)).alloc (.cells #[(.string ⟨#[]⟩), (.string ⟨#[]⟩), (.string ⟨#[]⟩), (.string ⟨#[]⟩), (.string ⟨#[]⟩), (.int .i64 0), (.slice none 0 0), (.slice none 0 0), (.slice none 0 0), (.string ⟨#[]⟩), (.string ⟨#[]⟩), (.string ⟨#[]⟩), (.string ⟨#[]⟩), (.int .i64 0), (.slice none 0 0), (.slice none 0 0), (.slice none 0 0), (.string ⟨#[]⟩), (.string ⟨#[]⟩), (.string ⟨#[]⟩), (.int .i64 0), (.slice none 0 0), (.slice none 0 0), (.slice none 0 0), (.int .i64 0), (.int .i64 0)] 34)) (w.heap.size + 1 + 1) 34 Z := by
    have := Blk.new ((w.alloc (.cells vs 34)).alloc (.cells rs 32)) 34 #[(.string ⟨#[]⟩), (.string ⟨#[]⟩), (.string ⟨#[]⟩), (.string ⟨#[]⟩), (.string ⟨#[]⟩), (.int .i64 0), (.slice none 0 0), (.slice none 0 0), (.slice none 0 0), (.string ⟨#[]⟩), (.string ⟨#[]⟩), (.string ⟨#[]⟩), (.string ⟨#[]⟩), (.int .i64 0), (.slice none 0 0), (.slice none 0 0), (.slice none 0 0), (.string ⟨#[]⟩), (.string ⟨#[]⟩), (.string ⟨#[]⟩), (.int .i64 0), (.slice none 0 0), (.slice none 0 0), (.slice none 0 0), (.int .i64 0), (.int .i64 0)]
    rw [World.size_alloc, World.size_alloc] at this
    rw [hZl]; exact this
  have hs3 : (((w.alloc (.cells vs 34)).alloc (.cells rs 32)).alloc (.cells #[(.string ⟨#[]⟩), (.string ⟨#[]⟩), (.string ⟨#[]⟩), (.string ⟨#[]⟩), (.string ⟨#[]⟩), (.int .i64 0), (.slice none 0 0), (.slice none 0 0), (.slice none 0 0), (.string ⟨#[]⟩), (.string ⟨#[]⟩), (.string ⟨#[]⟩), (.string ⟨#[]⟩), (.int .i64 0), (.slice none 0 0), (.slice none 0 0), (.slice none 0 0), (.string ⟨#[]⟩), (.string ⟨#[]⟩), (.string ⟨#[]⟩), (.int .i64 0), (.slice none 0 0), (.slice none 0 0), (.slice none 0 0), (.int .i64 0), (.int .i64 0)] 34)).heap.size = w.heap.size + 3 := by rw [World.size_alloc, World.size_alloc, World.size_alloc]
  obtain ⟨w0, hw0⟩ : ∃ w0, w0 = (((w.alloc (.cells vs 34)).alloc (.cells rs 32)).alloc (.cells #[(.string ⟨#[]⟩), (.string ⟨#[]⟩), (.string ⟨#[]⟩), (.string ⟨#[]⟩), (.string ⟨#[]⟩), (.int .i64 0), (.slice none 0 0), (.slice none 0 0), (.slice none 0 0), (.string ⟨#[]⟩), (.string ⟨#[]⟩), (.string ⟨#[]⟩), (.string ⟨#[]⟩), (.int .i64 0), (.slice none 0 0), (.slice none 0 0), (.slice none 0 0), (.string ⟨#[]⟩), (.string ⟨#[]⟩), (.string ⟨#[]⟩), (.int .i64 0), (.slice none 0 0), (.slice none 0 0), (.slice none 0 0), (.int .i64 0), (.int .i64 0)] 34)) := ⟨_, rfl⟩
  rw [← hw0] at hB0 bd0 br0 bz0 hs3
  have HW0 := Lib.hid hw0
  have HS3 := Lib.hid hs3
  have HM := Lib.hid (match_c _ _ d r w0 (hd.below hB0 (Nat.le_refl _)) (hr.below hB0 (Nat.le_refl _)) b1 b2)
  have HX := Lib.hid (fun (wx : World) (h : Below w0.heap.size w0 wx) => (show Blk wx (w.heap.size) 34 vs ∧ Blk wx (w.heap.size + 1) 32 rs ∧ Blk wx (w.heap.size + 1 + 1) 34 Z ∧ Below w.heap.size w wx from
    ⟨bd0.call h, br0.call h, bz0.call h, hB0.trans (h.mono hB0.size)⟩))
  have HA := Lib.hid ha
  have HD := Lib.hid hd
  have hcs := takeS_cases d r
  have hZ : Below w0.heap.size w0 w0 := Below.refl _ _
  obtain ⟨bd, br, bz, hBB⟩ := HX.out _ hZ
  clear hw0 hB0 bd0 br0 bz0 hs3 ha hd hr b1 b2 hZl
  rcases hcs with ⟨hm, hT⟩ | ⟨hm, hs, hT⟩ | ⟨hm, hs, hl, hT⟩ | ⟨hm, hs, c, hc, hT⟩
  · rw [hm] at HM
    rw [hT]
    dsimp only
    clear hm hT
    go_enter Tryz.func22, Tryz.ntmps22
    go_upto_region 1 with fail
    rw [← HW0.out]
    refine wp_region_lit ?_
    refine wpList_loadB (vs := vs) rfl rfl rfl Tryz.underlying34 (by rw [s26]; rfl) bd (whole _) ?_
    refine wpList_loadB (vs := rs) rfl rfl rfl Tryz.underlying32 (by rw [s38]; rfl) br (whole _) ?_
    go_upto_region 2 with (go_at_call 24; refine HM.out.mono ?_; rintro e w1 ⟨rfl, hC1⟩; have hZ := hC1; clear bd br bz hBB; obtain ⟨bd, br, bz, hBB⟩ := HX.out _ hZ)
    refine wp_region_lit ?_
    refine wpList_loadB (vs := vs) rfl rfl rfl Tryz.underlying34 (by rw [s26]; rfl) bd (whole _) ?_
    refine wpList_storeB (vs := vs) (cs' := vs) rfl rfl rfl rfl (by rw [s26]; rfl) bz (by rw [s26, z26]; omega) one (setAll_whole (by rw [z26, s26])) ?_
    intro w9 bz9 hfar9 hsz9 hbel9
    go_wp2
    refine bodyPost_ret (results_ct rfl rfl rfl Tryz.underlying34 (by rw [s26]; rfl) bz9) rfl ?_
    have HBf := hBB.trans (hbel9 _ (by omega))
    exact ⟨_, rfl, HD.out.below HBf (Nat.le_refl _), fun _ _ h => h, HBf⟩
  · rw [hm] at HM
    rw [hT]
    dsimp only
    clear hm hT
    go_enter Tryz.func22, Tryz.ntmps22
    go_upto_region 1 with fail
    rw [← HW0.out]
    refine wp_region_lit ?_
    refine wpList_loadB (vs := vs) rfl rfl rfl Tryz.underlying34 (by rw [s26]; rfl) bd (whole _) ?_
    refine wpList_loadB (vs := rs) rfl rfl rfl Tryz.underlying32 (by rw [s38]; rfl) br (whole _) ?_
    go_upto_region 3 with (go_at_call 24; refine HM.out.mono ?_; rintro e w1 ⟨rfl, hC1⟩; have hZ := hC1; clear bd br bz hBB; obtain ⟨bd, br, bz, hBB⟩ := HX.out _ hZ)
    have p24 := (boxedCell bd 24).trans v24; have f24 := boxedFree bd 24; have x28 := (boxedCell br 28).trans r28; have x32 := (boxedCell br 32).trans r32
    go_upto_region 4 with fail
    refine wp_region_lit ?_
    refine wpList_loadB (vs := vs) rfl rfl rfl Tryz.underlying34 (by rw [s26]; rfl) bd (whole _) ?_
    refine wpList_storeB (vs := vs) (cs' := vs) rfl rfl rfl rfl (by rw [s26]; rfl) bz (by rw [s26, z26]; omega) one (setAll_whole (by rw [z26, s26])) ?_
    intro w9 bz9 hfar9 hsz9 hbel9
    go_wp2
    refine bodyPost_ret (results_ct rfl rfl rfl Tryz.underlying34 (by rw [s26]; rfl) bz9) rfl ?_
    have HBf := hBB.trans (hbel9 _ (by omega))
    exact ⟨_, rfl, HD.out.below HBf (Nat.le_refl _), fun _ _ h => h, HBf⟩
  · rw [hm] at HM
    rw [hT]
    dsimp only
    have tl : ((r.contact.length : Int) == 1) = false := by simp; omega
    clear hm hT hl
    go_enter Tryz.func22, Tryz.ntmps22
    go_upto_region 1 with fail
    rw [← HW0.out]
    refine wp_region_lit ?_
    refine wpList_loadB (vs := vs) rfl rfl rfl Tryz.underlying34 (by rw [s26]; rfl) bd (whole _) ?_
    refine wpList_loadB (vs := rs) rfl rfl rfl Tryz.underlying32 (by rw [s38]; rfl) br (whole _) ?_
    go_upto_region 3 with (go_at_call 24; refine HM.out.mono ?_; rintro e w1 ⟨rfl, hC1⟩; have hZ := hC1; clear bd br bz hBB; obtain ⟨bd, br, bz, hBB⟩ := HX.out _ hZ)
    have p24 := (boxedCell bd 24).trans v24; have f24 := boxedFree bd 24; have x28 := (boxedCell br 28).trans r28; have x32 := (boxedCell br 32).trans r32
    have hB2 := hBB.setCell (p := ⟨w.heap.size, 24, none⟩) (Nat.le_refl _) (.int .i64 r.seq)
    have bd2 : Blk _ (w.heap.size) 34 (vs.setIfInBounds 24 (.int .i64 r.seq)) := bd.set_ 24 (.int .i64 r.seq)
    have br2 := br.far (p := ⟨w.heap.size, 24, none⟩) (show w.heap.size + 1 ≠ w.heap.size by omega) (.int .i64 r.seq)
    have bz2 := bz.far (p := ⟨w.heap.size, 24, none⟩) (show w.heap.size + 1 + 1 ≠ w.heap.size by omega) (.int .i64 r.seq)
    have HD2 := Lib.hid (HD.out.setLin r.seq)
    have one2 : ((vs.setIfInBounds 24 (.int .i64 r.seq)).toList.all fun v => v.oneCell') = true := all_set one rfl
    have s26' : (vs.setIfInBounds 24 (.int .i64 r.seq)).size = 26 := by rw [Array.size_setIfInBounds, s26]
    have HO := Lib.hid (fun g (h : DOff g vs) => h.set 24 (Off.int g r.seq))
    obtain ⟨ws, hws⟩ : ∃ x, x = vs.setIfInBounds 24 (.int .i64 r.seq) := ⟨_, rfl⟩
    rw [← hws] at bd2 HD2 one2 s26' HO
    obtain ⟨w2, hw2⟩ : ∃ x, x = (w1.setCell ⟨w.heap.size, 24, none⟩ (.int .i64 r.seq)) := ⟨_, rfl⟩
    rw [← hw2] at hB2 bd2 br2 bz2
    go_upto_region 6 with fail
    rw [← hw2]
    clear hw2
    have x32 := (boxedCell br2 32).trans r32
    go_upto_region 8 with fail
    refine wp_region_lit ?_
    refine wpList_loadB (vs := ws) rfl rfl rfl Tryz.underlying34 (by rw [s26']; rfl) bd2 (whole _) ?_
    refine wpList_storeB (vs := ws) (cs' := ws) rfl rfl rfl rfl (by rw [s26']; rfl) bz2 (by rw [s26', z26]; omega) one2 (setAll_whole (by rw [z26, s26'])) ?_
    intro w9 bz9 hfar9 hsz9 hbel9
    go_wp2
    refine bodyPost_ret (results_ct rfl rfl rfl Tryz.underlying34 (by rw [s26']; rfl) bz9) rfl ?_
    have HBf := hB2.trans (hbel9 _ (by omega))
    exact ⟨_, rfl, HD2.out.below HBf (Nat.le_refl _), fun g _ h => HO.out g h, HBf⟩
  · rw [hm] at HM
    rw [hT]
    dsimp only
    have b3' := b3 c (by rw [hc]; exact List.mem_singleton.2 rfl)
    have tl : r.contact.length = 1 := by rw [hc]; rfl
    rw [hc] at HA
    rw [tl] at r32
    clear hm hT b3
    go_enter Tryz.func22, Tryz.ntmps22
    go_upto_region 1 with fail
    rw [← HW0.out]
    refine wp_region_lit ?_
    refine wpList_loadB (vs := vs) rfl rfl rfl Tryz.underlying34 (by rw [s26]; rfl) bd (whole _) ?_
    refine wpList_loadB (vs := rs) rfl rfl rfl Tryz.underlying32 (by rw [s38]; rfl) br (whole _) ?_
    go_upto_region 3 with (go_at_call 24; refine HM.out.mono ?_; rintro e w1 ⟨rfl, hC1⟩; have hZ := hC1; clear bd br bz hBB; obtain ⟨bd, br, bz, hBB⟩ := HX.out _ hZ)
    have p24 := (boxedCell bd 24).trans v24; have f24 := boxedFree bd 24; have x28 := (boxedCell br 28).trans r28; have x32 := (boxedCell br 32).trans r32
    have hB2 := hBB.setCell (p := ⟨w.heap.size, 24, none⟩) (Nat.le_refl _) (.int .i64 r.seq)
    have bd2 : Blk _ (w.heap.size) 34 (vs.setIfInBounds 24 (.int .i64 r.seq)) := bd.set_ 24 (.int .i64 r.seq)
    have br2 := br.far (p := ⟨w.heap.size, 24, none⟩) (show w.heap.size + 1 ≠ w.heap.size by omega) (.int .i64 r.seq)
    have bz2 := bz.far (p := ⟨w.heap.size, 24, none⟩) (show w.heap.size + 1 + 1 ≠ w.heap.size by omega) (.int .i64 r.seq)
    have HD2 := Lib.hid (HD.out.setLin r.seq)
    have one2 : ((vs.setIfInBounds 24 (.int .i64 r.seq)).toList.all fun v => v.oneCell') = true := all_set one rfl
    have s26' : (vs.setIfInBounds 24 (.int .i64 r.seq)).size = 26 := by rw [Array.size_setIfInBounds, s26]
    have HO := Lib.hid (fun g (h : DOff g vs) => h.set 24 (Off.int g r.seq))
    obtain ⟨ws, hws⟩ : ∃ x, x = vs.setIfInBounds 24 (.int .i64 r.seq) := ⟨_, rfl⟩
    rw [← hws] at bd2 HD2 one2 s26' HO
    obtain ⟨w2, hw2⟩ : ∃ x, x = (w1.setCell ⟨w.heap.size, 24, none⟩ (.int .i64 r.seq)) := ⟨_, rfl⟩
    rw [← hw2] at hB2 bd2 br2 bz2
    go_upto_region 6 with fail
    rw [← hw2]
    clear hw2
    have x32 := (boxedCell br2 32).trans r32
    obtain ⟨ao2, cap2, e2, _, c2⟩ := HA.out.form
    obtain ⟨b, off, eb, hbl, hcc⟩ := c2 (by simp)
    obtain ⟨_, k1, k2, k3, k4, s1, s2, _, k5, k6, _, q1, q2, _⟩ := hcc 0 (by simp)
    simp only [Nat.zero_mul, Nat.add_zero, List.getElem_cons_zero] at k1 k2 k3 k4 k5 k6 q1 q2
    have hcw : ∀ o, w2.cell? ⟨b, o, none⟩ = w.cell? ⟨b, o, none⟩ := fun o => World.cell?_of_block (w := w) (a := ⟨b, o, none⟩) (hB2.block b hbl)
    rw [← hcw] at k1 k2 k3 k4 k5 k6
    injection e2 with e2 _ _
    rw [eb] at e2
    subst e2
    clear eb hcc c2 hcw
    obtain ⟨n1, d1, rfl⟩ := q1.form'
    obtain ⟨n2, d2, rfl⟩ := q2.form'
    have Q1 := Lib.hid q1
    have Q2 := Lib.hid q2
    clear q1 q2
    unfold sv at k1 k2 k3
    have HB2 := Lib.hid hB2
    have hlt2 := bz2.lt
    go_wp2_with (first | (go_at_call 34; refine (cloned_c _ _ _ _ _ _ c.uri.ps c.uri.hs w2 (Q1.out.below HB2.out (Nat.le_refl _)) (Q2.out.below HB2.out (Nat.le_refl _)) b3'.1 b3'.2).mono ?_; rintro e w3 ⟨v1, v2, rfl, R1, R2, hF1, hF2, hC3⟩; obtain ⟨a1, g1, rfl⟩ := R1.form'; obtain ⟨a2, g2, rfl⟩ := R2.form'; replace bd2 := bd2.call hC3; replace bz2 := bz2.call hC3; replace hB2 := hB2.trans (hC3.mono hB2.size)) | (with_reducible refine holdStore 24 rfl ?_))
    unfold Hold
    refine wpList_storeB (vs := #[.string (bs c.uri.scheme), .string (bs c.uri.user), .string (bs c.uri.host), .int .i64 c.uri.port, .slice a1 c.uri.ps.length g1, .slice a2 c.uri.hs.length g2]) rfl rfl rfl rfl (by kernel_rfl) bd2 (by rw [s26']; exact Nat.le_of_ble_eq_true rfl) rfl rfl ?_
    intro w8 bd8 hfar8 hsz8 hbel8
    have bz8 : Blk w8 (w.heap.size + 1 + 1) 34 Z := (hfar8 _ (by omega)).trans bz2
    have sx : (setAll ws 17 #[.string (bs c.uri.scheme), .string (bs c.uri.user), .string (bs c.uri.host), .int .i64 c.uri.port, .slice a1 c.uri.ps.length g1, .slice a2 c.uri.hs.length g2].toList).size = 26 := by rw [setAll_size, s26']
    have onex : ((setAll ws 17 #[.string (bs c.uri.scheme), .string (bs c.uri.user), .string (bs c.uri.host), .int .i64 c.uri.port, .slice a1 c.uri.ps.length g1, .slice a2 c.uri.hs.length g2].toList).toList.all fun v => v.oneCell') = true := all_setAll one2 17 rfl
    have HOX := Lib.hid (fun g (h : DOff g vs) (h1 : Off g (Value.slice a1 c.uri.ps.length g1)) (h2 : Off g (Value.slice a2 c.uri.hs.length g2)) => (HO.out g h).setAll 17 (l := #[.string (bs c.uri.scheme), .string (bs c.uri.user), .string (bs c.uri.host), .int .i64 c.uri.port, .slice a1 c.uri.ps.length g1, .slice a2 c.uri.hs.length g2].toList) (off6 h1 h2))
    have HSX := Lib.hid (fun wx (h : RDlg wx (.agg ws) ⟨d.call, d.loc, d.rem, d.tgt, d.routes, r.seq, d.lout⟩) i1 i2 => h.setTgt c.uri (q1 := .slice a1 c.uri.ps.length g1) (q2 := .slice a2 c.uri.hs.length g2) i1 i2)
    obtain ⟨xs, hxs⟩ : ∃ x, x = setAll ws 17 #[.string (bs c.uri.scheme), .string (bs c.uri.user), .string (bs c.uri.host), .int .i64 c.uri.port, .slice a1 c.uri.ps.length g1, .slice a2 c.uri.hs.length g2].toList := ⟨_, rfl⟩
    rw [← hxs] at bd8 sx onex HOX
    have hxs2 : xs = setAll ws 17 [.string (bs c.uri.scheme), .string (bs c.uri.user), .string (bs c.uri.host), .int .i64 c.uri.port, .slice a1 c.uri.ps.length g1, .slice a2 c.uri.hs.length g2] := hxs
    rw [← hxs2] at HSX
    clear hxs hxs2
    go_upto_region 8 with fail
    refine wp_region_lit ?_
    refine wpList_loadB (vs := xs) rfl rfl rfl Tryz.underlying34 (by rw [sx]; rfl) bd8 (whole _) ?_
    refine wpList_storeB (vs := xs) (cs' := xs) rfl rfl rfl rfl (by rw [sx]; rfl) bz8 (by rw [sx, z26]; omega) onex (setAll_whole (by rw [z26, sx])) ?_
    intro w9 bz9 hfar9 hsz9 hbel9
    go_wp2
    refine bodyPost_ret (results_ct rfl rfl rfl Tryz.underlying34 (by rw [sx]; rfl) bz9) rfl ?_
    have HBf := (hB2.trans (hbel8 _ (Nat.le_refl _))).trans (hbel9 _ (by omega))
    have o1 : ∀ g, g < w2.heap.size → Off g (.slice a1 c.uri.ps.length g1) := fun g h => Off.fresh hF1 h
    have o2 : ∀ g, g < w2.heap.size → Off g (.slice a2 c.uri.hs.length g2) := fun g h => Off.fresh hF2 h
    have R1' := Off.prms (Off.prms R1 (o1 _ (by omega)) hfar8 (Nat.le_of_eq hsz8.symm)) (o1 _ hlt2) hfar9 (Nat.le_of_eq hsz9.symm)
    have R2' := Off.prms (Off.prms R2 (o2 _ (by omega)) hfar8 (Nat.le_of_eq hsz8.symm)) (o2 _ hlt2) hfar9 (Nat.le_of_eq hsz9.symm)
    exact ⟨_, rfl, HSX.out _ (HD2.out.below HBf (Nat.le_refl _)) R1' R2', fun g hg h => HOX.out g h (o1 g (by omega)) (o2 g (by omega)), HBf⟩

end Go.Proofs.YtipdiddjhimdcaaGreatDoor

namespace Go.Proofs.YtipdiddjhimdcaaGreatDoor
set_option linter.unusedSimpArgs false
set_option linter.unusedVariables false
open Go.RowKit Go.Sort


section
variable {P : Program} {ops : Array Oper} {rest : List Oper} {o : Oper} {a : Act} {Q : Exit → Act → World → Prop} {w : World} {t : TypeId}
/-- a struct loaded whole by an operation behind a guard that is met -/
theorem wpList_loadG {g : Nat} {T : TypeId} {fs : Array Field} {vs : Array Value} {p : Operand}
    (hw : Region.wanted o (yielded ops a.tmps) = true) (ho : o.op = .load T p) (hp : a.eval p = .pointer (some ⟨g, 0, none⟩)) (hA : P.underlying T = some (.struct fs)) (hC : (P.info? T).map (·.size) = some vs.size)
    (hb : Blk w g t vs) (h : wpList P ops Q rest (a.put o.dst (.agg vs)) w) : wpList P ops Q (o :: rest) a w := by
  refine wpList_step fun K hK => ?_
  rw [if_pos hw]
  have hl := loadVar_blk hA hC hb
  have hex : (execOp a.eval o).run P w = .ok (.value (.agg vs)) w := by
    simp [execOp, ho, hp, Instr.loadAt, Instr.sureAddr, hl, Result.andThen]
  unfold Oper.wp
  rw [hex]
  exact hK _ _ h
end
def d0A : Dlg := ⟨[57], ⟨[], ⟨[115, 105, 112], [97], [98], 0, [], []⟩, [⟨[116, 97, 103], [120], true⟩]⟩, pFrom, pUri, [], 7, 0⟩
def rqT (n : Int) : Rq := ⟨pFrom, pTo, [49], [120], [57], n, [⟨[], pUri, []⟩], []⟩
theorem ex18_4 : beginS plainRq [120] = ((d0A, 0) : Dlg × Int) := by kernel_rfl
theorem ex18_5 : takeS d0A (rqT 7) = ((d0A, 180) : Dlg × Int) := by kernel_rfl
theorem ex18_6 : (takeS d0A (rqT 8)).2 = 0 := by decide +kernel
theorem ex18_7 : whereD d0A = [100, 58, 53, 48, 55, 48] := by decide +kernel
theorem adrB_from : AdrB pFrom := ⟨by decide, by decide, by decide, fun p hp => (by cases hp), fun p hp => (by cases hp), fun p hp => (by rw [List.mem_singleton.1 hp]; decide), by decide, by decide, by decide⟩
theorem adrB_to : AdrB pTo := ⟨by decide, by decide, by decide, fun p hp => (by cases hp), fun p hp => (by cases hp), fun p hp => (by cases hp), by decide, by decide, by decide⟩
theorem rqB_plain : RqB plainRq := ⟨adrB_from, adrB_to, fun c hc => (by rw [List.mem_singleton.1 hc]; decide), by decide, by decide, by decide⟩
theorem d0A_b1 : ∀ p ∈ d0A.loc.ps, p.name.length ≤ 4294967280 := fun p hp => by rw [List.mem_singleton.1 hp]; decide
theorem d0A_b2 : ∀ p ∈ d0A.rem.ps, p.name.length ≤ 4294967280 := fun p hp => by rw [List.mem_singleton.1 hp]; decide
theorem rqT_b3 (n : Int) : ∀ c ∈ (rqT n).contact, c.uri.ps.length ≤ 1099511627776 ∧ c.uri.hs.length ≤ 1099511627776 := fun c hc => by rw [List.mem_singleton.1 hc]; decide

set_option maxRecDepth 100000 in
set_option maxHeartbeats 12800000 in
theorem awake18_c (w : World) (hm : Ml w) : Calls Tryz.prog 12 #[] w fun e w' => e = .returned (.bool true) ∧ Below w.heap.size w w' := by
  have HM := Lib.hid hm
  have HPL := Lib.hid (fun wx => plainQ_c wx)
  have HBG := Lib.hid (fun wx rs hx hr => begin_c rs ⟨#[120]⟩ plainRq wx hx hr rqB_plain (by decide))
  rw [show us ⟨#[120]⟩ = [120] from rfl, ex18_4] at HBG
  have HT1 := Lib.hid (fun wx vs rs hd hr => take_c vs (.agg rs) d0A (rqT 7) wx hd hr d0A_b1 d0A_b2 (rqT_b3 7))
  rw [ex18_5] at HT1
  have HT2 := Lib.hid (fun wx vs rs hd hr => take_c vs (.agg rs) d0A (rqT 8) wx hd hr d0A_b1 d0A_b2 (rqT_b3 8))
  rw [ex18_6] at HT2
  have HWD := Lib.hid (fun wx vs hx hd => whereD_c (.agg vs) d0A wx hx hd (by decide) (by decide) (by decide) (fun x hx => (by cases hx)) (fun x hx => (by cases hx)))
  rw [ex18_7, show bs [100, 58, 53, 48, 55, 48] = ⟨#[100, 58, 53, 48, 55, 48]⟩ from rfl] at HWD
  dsimp only at HBG HT1
  clear hm
  have hZ0 : Below w.heap.size w w := Below.refl _ _
  go_enter Tryz.func12, Tryz.ntmps12
  go_wp2_with (first | (go_at_call 26; refine (HPL.out _).mono ?_; rintro e w1 ⟨rs, rfl, s38, one, _, hR, hC1⟩; replace hZ0 := hZ0.trans (hC1.mono hZ0.size)) | (go_at_call 10; refine (HBG.out _ _ (HM.out.below hZ0) hR).mono ?_; rintro e w2 ⟨ds, rfl, hD, hC2⟩; replace hZ0 := hZ0.trans (hC2.mono hZ0.size)) | (with_reducible refine holdStore 34 rfl ?_))
  unfold Hold
  obtain ⟨ds', ed, d26, done_, dl, _, hD⟩ := hD.row
  injection ed with ed
  subst ed
  refine wpList_storeNew (vs := ds) rfl rfl rfl rfl (by rw [d26]; rfl) (by rw [d26]; rfl) done_ ?_
  clear hC1 hC2 hR s38 one
  have bd := Blk.new w2 34 ds
  have hZ1 := hZ0.alloc hZ0.size (.cells ds 34)
  have hD1 := Lib.hid (hD.below ((Below.refl w2.heap.size w2).alloc (Nat.le_refl _) (.cells ds 34)) (Nat.le_refl _))
  obtain ⟨gd, hgd⟩ : ∃ x, x = w2.heap.size := ⟨_, rfl⟩
  obtain ⟨w3, hw3⟩ : ∃ x, x = w2.alloc (.cells ds 34) := ⟨_, rfl⟩
  rw [← hw3] at bd hZ1 hD1
  rw [← hw3]
  rw [← hgd] at bd
  rw [← hgd]
  clear hw3 hgd hZ0 hD
  go_wp2_with (first | (go_at_call 26; refine (HPL.out _).mono ?_; rintro e w4 ⟨rs, rfl, s38, one, _, hR, hC⟩) | (with_reducible refine holdStore 32 rfl ?_))
  unfold Hold
  refine wpList_storeNew (vs := rs) rfl rfl rfl rfl (by rw [s38]; rfl) (by rw [s38]; rfl) one ?_
  obtain ⟨rs', er, _, _, r26, _, r28, _, hR⟩ := hR.row
  injection er with er
  subst er
  have hgd3 := bd.lt
  have hZ2 := hZ1.trans (hC.mono hZ1.size)
  have hZ3 := hZ2.alloc hZ2.size (.cells rs 32)
  replace bd := (bd.call hC).alloc (.cells rs 32)
  have br := Blk.new w4 32 rs
  have hB3 := hC.alloc hC.size (.cells rs 32)
  have hA : Below w4.heap.size w4 (w4.alloc (.cells rs 32)) := (Below.refl _ _).alloc (Nat.le_refl _) _
  have HR4 := Lib.hid hR
  have hgr : w4.heap.size ≠ gd := Nat.ne_of_gt (Nat.lt_of_lt_of_le hgd3 hC.size)
  have hg3 : w3.heap.size ≤ w4.heap.size := hC.size
  have hgB : w.heap.size ≤ w4.heap.size := hZ2.size
  obtain ⟨gr, hgr2⟩ : ∃ x, x = w4.heap.size := ⟨_, rfl⟩
  obtain ⟨w5, hw5⟩ : ∃ x, x = w4.alloc (.cells rs 32) := ⟨_, rfl⟩
  rw [← hw5] at bd br hZ3 hA hB3
  rw [← hw5]
  rw [← hgr2] at br hgr hg3 hgB
  rw [← hgr2]
  have hg4 : w4.heap.size ≤ gr := Nat.le_of_eq hgr2.symm
  clear hw5 hgr2 hC hZ1 hZ2 hR HBG HPL hgd3
  have x26 := (boxedCell br 26).trans r26
  have f26 := boxedFree br 26
  go_upto_region 4 with fail
  -- the tag is told
  replace hZ3 := hZ3.setCell (p := ⟨gr, 26, none⟩) hgB (.string ⟨#[120]⟩)
  replace hA := hA.setCell (p := ⟨gr, 26, none⟩) hg4 (.string ⟨#[120]⟩)
  replace hB3 := hB3.setCell (p := ⟨gr, 26, none⟩) hg3 (.string ⟨#[120]⟩)
  replace bd := bd.far (p := ⟨gr, 26, none⟩) (Ne.symm hgr) (.string ⟨#[120]⟩)
  replace br : Blk _ gr 32 (rs.setIfInBounds 26 (.string ⟨#[120]⟩)) := br.set_ 26 (.string ⟨#[120]⟩)
  obtain ⟨ra, hra⟩ : ∃ x, x = rs.setIfInBounds 26 (.string ⟨#[120]⟩) := ⟨_, rfl⟩
  replace s38 : ra.size = 38 := by rw [hra, Array.size_setIfInBounds, s38]
  obtain ⟨w6, hwx⟩ : ∃ x, x = w5.setCell ⟨gr, 26, none⟩ (.string ⟨#[120]⟩) := ⟨_, rfl⟩
  rw [← hra] at br
  rw [← hwx] at hZ3 hA hB3 bd br
  rw [← hwx]
  clear hwx
  have hRa := Lib.hid (show RReq w4 (.agg ra) (rqT 7) from by rw [hra]; exact HR4.out.setTo [120])
  have r28a : ra[28]? = some (.int .i64 7) := by rw [hra, Array.getElem?_setIfInBounds_ne (by decide)]; exact r28
  clear hra r26 r28
  -- it is taken
  go_wp2_with (with_reducible refine holdLoad 34 rfl ?_)
  unfold Hold
  refine wpList_loadB (vs := ds) rfl rfl rfl Tryz.underlying34 (by rw [d26]; rfl) bd (whole _) ?_
  go_wp2_with (with_reducible refine holdLoad 32 rfl ?_)
  unfold Hold
  refine wpList_loadB (vs := ra) rfl rfl rfl Tryz.underlying32 (by rw [s38]; rfl) br (whole _) ?_
  go_wp2_with (first | (go_at_call 22; refine (HT1.out _ _ _ (hD1.out.below hB3 (Nat.le_refl _)) (hRa.out.below hA (Nat.le_refl _))).mono ?_; rintro e y ⟨ta, rfl, hT, _, hC⟩) | (with_reducible refine holdStore 34 rfl ?_))
  unfold Hold
  obtain ⟨t', et, t26, tone, _, _, _⟩ := hT.row
  injection et with et
  subst et
  refine wpList_storeNew (vs := ta) rfl rfl rfl rfl (by rw [t26]; rfl) (by rw [t26]; rfl) tone ?_
  replace hZ3 := (hZ3.trans (hC.mono hZ3.size)).alloc (hZ3.trans (hC.mono hZ3.size)).size (.cells ta 34)
  replace hA := (hA.trans (hC.mono hA.size)).alloc (hA.trans (hC.mono hA.size)).size (.cells ta 34)
  replace hB3 := (hB3.trans (hC.mono hB3.size)).alloc (hB3.trans (hC.mono hB3.size)).size (.cells ta 34)
  replace bd := (bd.call hC).alloc (.cells ta 34)
  replace br := (br.call hC).alloc (.cells ta 34)
  obtain ⟨w7, hwx⟩ : ∃ x, x = y.alloc (.cells ta 34) := ⟨_, rfl⟩
  rw [← hwx] at hZ3 hA hB3 bd br
  rw [← hwx]
  clear hwx hC hT t26 tone
  have x28 := (boxedCell br 28).trans r28a
  have f28 := boxedFree br 28
  go_upto_region 6 with fail
  replace hZ3 := hZ3.setCell (p := ⟨gr, 28, none⟩) hgB (.int .i64 8)
  replace hA := hA.setCell (p := ⟨gr, 28, none⟩) hg4 (.int .i64 8)
  replace hB3 := hB3.setCell (p := ⟨gr, 28, none⟩) hg3 (.int .i64 8)
  replace bd := bd.far (p := ⟨gr, 28, none⟩) (Ne.symm hgr) (.int .i64 8)
  replace br : Blk _ gr 32 (ra.setIfInBounds 28 (.int .i64 8)) := br.set_ 28 (.int .i64 8)
  obtain ⟨rb, hra⟩ : ∃ x, x = ra.setIfInBounds 28 (.int .i64 8) := ⟨_, rfl⟩
  replace s38 : rb.size = 38 := by rw [hra, Array.size_setIfInBounds, s38]
  obtain ⟨w8, hwx⟩ : ∃ x, x = w7.setCell ⟨gr, 28, none⟩ (.int .i64 8) := ⟨_, rfl⟩
  rw [← hra] at br
  rw [← hwx] at hZ3 hA hB3 bd br
  rw [← hwx]
  clear hwx
  have hRb := Lib.hid (show RReq w4 (.agg rb) (rqT 8) from by rw [hra]; exact hRa.out.setSeq 8)
  clear hra r28a x28 f28
  go_wp2_with (with_reducible refine holdLoad 34 rfl ?_)
  unfold Hold
  refine wpList_loadB (vs := ds) rfl rfl rfl Tryz.underlying34 (by rw [d26]; rfl) bd (whole _) ?_
  go_wp2_with (with_reducible refine holdLoad 32 rfl ?_)
  unfold Hold
  refine wpList_loadB (vs := rb) rfl rfl rfl Tryz.underlying32 (by rw [s38]; rfl) br (whole _) ?_
  go_wp2_with (first | (go_at_call 22; refine (HT2.out _ _ _ (hD1.out.below hB3 (Nat.le_refl _)) (hRb.out.below hA (Nat.le_refl _))).mono ?_; rintro e y ⟨tb, rfl, hT, _, hC⟩) | (with_reducible refine holdStore 34 rfl ?_))
  unfold Hold
  obtain ⟨t', et, t26, tone, _, _, _⟩ := hT.row
  injection et with et
  subst et
  refine wpList_storeNew (vs := tb) rfl rfl rfl rfl (by rw [t26]; rfl) (by rw [t26]; rfl) tone ?_
  replace hZ3 := (hZ3.trans (hC.mono hZ3.size)).alloc (hZ3.trans (hC.mono hZ3.size)).size (.cells tb 34)
  replace hA := (hA.trans (hC.mono hA.size)).alloc (hA.trans (hC.mono hA.size)).size (.cells tb 34)
  replace hB3 := (hB3.trans (hC.mono hB3.size)).alloc (hB3.trans (hC.mono hB3.size)).size (.cells tb 34)
  replace bd := (bd.call hC).alloc (.cells tb 34)
  replace br := (br.call hC).alloc (.cells tb 34)
  obtain ⟨w9, hwx⟩ : ∃ x, x = y.alloc (.cells tb 34) := ⟨_, rfl⟩
  rw [← hwx] at hZ3 hA hB3 bd br
  rw [← hwx]
  clear hwx hC hT t26 tone
  have x24 := (boxedCell bd 24).trans dl
  have hD9 := Lib.hid (hD1.out.below hB3 (Nat.le_refl _))
  have HWD9 := Lib.hid (HWD.out w9 ds (HM.out.below hZ3) hD9.out)
  go_wp2_with (with_reducible refine holdLoad 34 rfl ?_)
  unfold Hold
  refine wpList_loadG (vs := ds) (by rfl) rfl rfl Tryz.underlying34 (by rw [d26]; rfl) bd ?_
  go_wp2_with (go_at_call 27; refine HWD9.out.mono ?_; rintro e wz ⟨rfl, hCz⟩)
  go_ret
  exact ⟨rfl, hZ3.trans (hCz.mono hZ3.size)⟩

end Go.Proofs.YtipdiddjhimdcaaGreatDoor

namespace Go.Proofs.YtipdiddjhimdcaaGreatDoor
open Go.ChangeShapes Go.WideShapes Go.ChangeAt Go.RowKit

theorem addr_of_cell {w : World} {a : Addr} {v : Value} (h : w.cell? a = some v) : a = ⟨a.block, a.off, none⟩ ∧ a.block < w.heap.size := by
  obtain ⟨b, o, sp⟩ := a
  cases sp with
  | none =>
    refine ⟨rfl, ?_⟩
    rcases Nat.lt_or_ge b w.heap.size with hlt | hge
    · exact hlt
    · simp [World.cell?, Array.getElem?_eq_none hge] at h
  | some x =>
    exfalso
    simp only [World.cell?] at h
    split at h <;> simp at h
theorem add_at (b o i : Nat) : (⟨b, o, none⟩ : Addr).add i = ⟨b, o + i, none⟩ := by unfold Addr.add; split <;> simp_all
section
variable {H : Type} {enc : TypeId × Value → H} {P : Program} {w : World} {base : Nat} {spare : Nat → Bool} {held : Bool}
open Go.Joins Go.Deep in
end

end Go.Proofs.YtipdiddjhimdcaaGreatDoor

namespace Go.Proofs.YtipdiddjhimdcaaGreatDoor
open Go.ChangeShapes Go.WideShapes Go.ChangeAt Go.RowKit

def RInts (w : World) (v : Value) (L : List Int) : Prop := RRow w v L.length (L.map fun n => .int .i64 n)
section
variable {H : Type} {enc : TypeId × Value → H} {P : Program} {w : World} {base : Nat} {spare : Nat → Bool} {held : Bool}
theorem open_nums {t e : TypeId} {v : Value} {d : DataW H} {p : List MemPlace} {r : Reach} {b0 : Nat} (ht : P.underlying t = some (.slice e)) (he : P.underlying e = some (.int .i64)) (hc : P.cellsOf e = 1)
    (hv : Value.okWide P w r b0 t v) (h : DataW.Trod enc P w base spare held t v d p) : ∃ L, RInts w v L := by
  obtain ⟨a0, len, cap, rfl⟩ := okWide_slice ht hv
  obtain ⟨fuel, hf⟩ := h
  rcases open_ints ht he hc hf with ⟨hcs, hx⟩ | ⟨a, len', cap', zs, hcs, _, hl, hm, hz, hx, hcell, hws⟩
  · simp [Value.cells] at hcs
    obtain ⟨rfl, rfl, rfl⟩ := hcs
    exact ⟨[], .inl ⟨⟨_, _, rfl⟩, rfl, rfl⟩⟩
  · simp [Value.cells] at hcs
    obtain ⟨rfl, rfl, rfl⟩ := hcs
    have hlen : len ≤ zs.length := by rw [hz]; split <;> omega
    have hLl : (zs.take len).length = len := by rw [List.length_take]; omega
    refine ⟨zs.take len, ?_⟩
    rcases Nat.eq_zero_or_pos len with h0 | h0
    · subst h0
      exact .inl ⟨⟨_, _, rfl⟩, by simp, by simp⟩
    · have hc0 := hcell 0 (by omega)
      rw [show a.add 0 = a from rfl] at hc0
      obtain ⟨ha, hb⟩ := addr_of_cell hc0
      obtain ⟨ab, ao, asp⟩ := a
      simp only [Addr.mk.injEq, true_and] at ha
      subst ha
      refine .inr ⟨ab, ao, cap, by rw [hLl], by rw [hLl]; exact hl, hm, hb, fun j u hj => ?_⟩
      have hj' : j < len := by have := (List.getElem?_eq_some_iff.1 hj).1; rw [List.length_map, hLl] at this; exact this
      have := hcell j (by omega)
      rw [add_at] at this
      rw [this, ← hj, List.getElem?_map, List.getElem?_take_of_lt hj', List.getElem?_eq_getElem (by omega)]
      simp [List.getD_eq_getElem?_getD, List.getElem?_eq_getElem (show j < zs.length by omega)]
end

end Go.Proofs.YtipdiddjhimdcaaGreatDoor

namespace Go.Proofs.YtipdiddjhimdcaaGreatDoor
set_option linter.unusedSimpArgs false
set_option linter.unusedVariables false
open Go.RowKit Go.Sort


def dA (n : Int) : Dlg := ⟨d0A.call, d0A.loc, d0A.rem, d0A.tgt, [], n, 0⟩
def rqF (n : Int) : Rq := ⟨pFrom, pTo, [49], [], [57], n, [⟨[], pUri, []⟩], []⟩
theorem begin_dA (n : Int) : beginS (rqF n) [120] = ((dA n, 0) : Dlg × Int) := by kernel_rfl
theorem match_dA (m n : Int) : matchD (dA m) (rqT n) = true := by kernel_rfl
theorem take_dA (m n : Int) : takeS (dA m) (rqT n) = if n ≤ m then (dA m, 180) else (dA n, 0) := by
  unfold takeS
  rw [match_dA, if_neg (by decide)]
  rfl
theorem take_le {m n : Int} (h : n ≤ m) : takeS (dA m) (rqT n) = (dA m, 180) := by rw [take_dA, if_pos h]
theorem take_gt {m n : Int} (h : ¬ n ≤ m) : takeS (dA m) (rqT n) = (dA n, 0) := by rw [take_dA, if_neg h]
theorem rqB_F (n : Int) : RqB (rqF n) := ⟨adrB_from, adrB_to, rqB_plain.2.2.1, rqB_plain.2.2.2.1, rqB_plain.2.2.2.2.1, rqB_plain.2.2.2.2.2⟩
theorem RDlg.noB {w : World} {vs : Array Value} {d : Dlg} (h : RDlg w (.agg vs) d) : NoB vs := by
  obtain ⟨u1, u2, u3, u4, u5, u6, u7, u8, u9, e, h1, h2, h3, h4, h5, h6, h7, h8, h9⟩ := h
  injection e with e
  subst e
  obtain ⟨_, _, rfl⟩ := h1.form'
  obtain ⟨_, _, rfl⟩ := h2.form'
  obtain ⟨_, _, rfl⟩ := h3.form'
  obtain ⟨_, _, rfl⟩ := h4.form'
  obtain ⟨_, _, rfl⟩ := h5.form'
  obtain ⟨_, _, rfl⟩ := h6.form'
  obtain ⟨_, _, rfl⟩ := h7.form'
  obtain ⟨_, _, rfl⟩ := h8.form'
  obtain ⟨_, _, rfl⟩ := h9.form9
  rfl
theorem RDlg.apart {w w' : World} {g : Nat} {t : TypeId} {cs vs : Array Value} {d : Dlg} (h : RDlg w (.agg vs) d) (hb : Blk w g t cs) (hn : NoB cs) (hr : d.routes = []) (hh : ∀ k, k ≠ g → w'.heap[k]? = w.heap[k]?) (hs : w.heap.size ≤ w'.heap.size) : RDlg w' (.agg vs) d := by
  obtain ⟨u1, u2, u3, u4, u5, u6, u7, u8, u9, e, h1, h2, h3, h4, h5, h6, h7, h8, h9⟩ := h
  have go : ∀ {v : Value} {L : List Prm}, RPrms w v L → RPrms w' v L := fun h => Off.prms h (Off.noBool h hb hn) hh hs
  have o9 : Off g u9 := by
    rw [hr] at h9
    obtain ⟨_, _, rfl⟩ := h9.form9
    exact Off.zero _ _ _
  exact ⟨u1, u2, u3, u4, u5, u6, u7, u8, u9, e, go h1, go h2, go h3, go h4, go h5, go h6, go h7, go h8, Off.strs h9 o9 hh hs⟩
theorem NoB.set {vs : Array Value} (h : NoB vs) (i : Nat) {x : Value} (hx : isBool x = false) : NoB (vs.setIfInBounds i x) := by
  unfold NoB at h ⊢
  rw [List.all_eq_true] at h ⊢
  intro v hv
  rw [Array.toList_setIfInBounds] at hv
  rcases List.mem_or_eq_of_mem_set hv with g | rfl
  · exact h v g
  · rw [hx]; rfl
theorem set_far (w : World) (p : Addr) (x : Value) (k : Nat) (hk : k ≠ p.block) : (w.setCell p x).heap[k]? = w.heap[k]? := Below.heap_setCell w p x k hk

set_option maxRecDepth 100000 in
set_option maxHeartbeats 12800000 in
theorem dialogRises_walk (v : Value) (L : List Int) (n : Int) (n0 : -9223372036854775808 ≤ n) (n1 : n ≤ 9223372036854775807) (w : World) (hm : Ml w) (hv : RInts w v L) :
    Calls Tryz.prog 6 #[v, .int .i64 n] w fun e w' => e = .returned (.bool true) ∧ Below w.heap.size w w' := by
  have HM := Lib.hid hm
  have HPL := Lib.hid (fun wx => plainQ_c wx)
  have HBG := Lib.hid (fun wx rs hx hr => begin_c rs ⟨#[120]⟩ (rqF n) wx hx hr (rqB_F n) (by decide))
  rw [show us ⟨#[120]⟩ = [120] from rfl, begin_dA] at HBG
  dsimp only at HBG
  have HAW := Lib.hid (fun wx hx => awake18_c wx hx)
  have HV := Lib.hid hv
  have hvl : ∃ ao cap, v = .slice ao L.length cap ∧ L.length ≤ maxLen ∧ (0 < L.length → ∃ b off, ao = some ⟨b, off, none⟩ ∧ b < w.heap.size ∧ ∀ j (hj : j < L.length), w.cell? ⟨b, off + j, none⟩ = some (.int .i64 L[j])) := by
    rcases hv with ⟨⟨ao, cap, rfl⟩, h0, _⟩ | ⟨b, off, cap, rfl, h1, h2, h3, h4⟩
    · exact ⟨ao, cap, by rw [h0], by omega, fun h => by omega⟩
    · exact ⟨_, cap, rfl, by omega, fun _ => ⟨b, off, rfl, h3, fun j hj => h4 j _ (by simp [hj])⟩⟩
  obtain ⟨ao, cap, rfl, hl1, hl2⟩ := hvl
  have HL := Lib.hid hl2
  unfold maxLen at hl1
  clear hm hv hl2
  have hZ0 : Below w.heap.size w w := Below.refl _ _
  go_enter Tryz.func6, Tryz.ntmps6
  -- the request
  go_wp2_with (first | (go_at_call 26; refine (HPL.out _).mono ?_; rintro e w4 ⟨rs, rfl, s38, one, nob, hR, hC⟩) | (with_reducible refine holdStore 32 rfl ?_))
  unfold Hold
  refine wpList_storeNew (vs := rs) rfl rfl rfl rfl (by rw [s38]; rfl) (by rw [s38]; rfl) one ?_
  obtain ⟨rs', er, _, _, r26, _, r28, _, hR⟩ := hR.row
  injection er with er
  subst er
  have hZ2 := hZ0.trans (hC.mono hZ0.size)
  have hZ3 := hZ2.alloc hZ2.size (.cells rs 32)
  have br := Blk.new w4 32 rs
  have hA : Below w4.heap.size w4 (w4.alloc (.cells rs 32)) := (Below.refl _ _).alloc (Nat.le_refl _) _
  have HR4 := Lib.hid hR
  have hgB : w.heap.size ≤ w4.heap.size := hZ2.size
  obtain ⟨gr, hgr2⟩ : ∃ x, x = w4.heap.size := ⟨_, rfl⟩
  obtain ⟨w5, hw5⟩ : ∃ x, x = w4.alloc (.cells rs 32) := ⟨_, rfl⟩
  rw [← hw5] at br hZ3 hA
  rw [← hw5]
  rw [← hgr2] at br hgB
  rw [← hgr2]
  have hg4 : w4.heap.size ≤ gr := Nat.le_of_eq hgr2.symm
  clear hw5 hgr2 hC hZ0 hZ2 hR HPL one
  have x28 := (boxedCell br 28).trans r28
  have f28 := boxedFree br 28
  go_upto_region 3 with fail
  replace hZ3 := hZ3.setCell (p := ⟨gr, 28, none⟩) hgB (.int .i64 n)
  replace hA := hA.setCell (p := ⟨gr, 28, none⟩) hg4 (.int .i64 n)
  replace br : Blk _ gr 32 (rs.setIfInBounds 28 (.int .i64 n)) := br.set_ 28 (.int .i64 n)
  obtain ⟨ra, hra⟩ : ∃ zz, zz = rs.setIfInBounds 28 (.int .i64 n) := ⟨_, rfl⟩
  replace s38 : ra.size = 38 := by rw [hra, Array.size_setIfInBounds, s38]
  obtain ⟨w6, hwx⟩ : ∃ zz, zz = w5.setCell ⟨gr, 28, none⟩ (.int .i64 n) := ⟨_, rfl⟩
  rw [← hra] at br
  rw [← hwx] at hZ3 hA  br
  rw [← hwx]
  clear hwx
  have hRa := Lib.hid (show RReq w4 (.agg ra) (rqF n) from by rw [hra]; exact HR4.out.setSeq n)
  have nobA : NoB ra := by rw [hra]; exact nob.set 28 rfl
  have r26a : ra[26]? = some (.string (bs plainRq.toT)) := by rw [hra, Array.getElem?_setIfInBounds_ne (by decide)]; exact r26
  clear hra x28 f28 r26 r28 nob
  -- the dialog
  go_wp2_with (with_reducible refine holdLoad 32 rfl ?_)
  unfold Hold
  refine wpList_loadB (vs := ra) rfl rfl rfl Tryz.underlying32 (by rw [s38]; rfl) br (whole _) ?_
  go_wp2_with (first | (go_at_call 10; refine (HBG.out _ _ (HM.out.below hZ3) (hRa.out.below hA (Nat.le_refl _))).mono ?_; rintro e y ⟨ds, rfl, hD, hC⟩) | (with_reducible refine holdStore 34 rfl ?_))
  unfold Hold
  obtain ⟨ds', ed, d26, done_, dl, _, hD⟩ := hD.row
  injection ed with ed
  subst ed
  refine wpList_storeNew (vs := ds) rfl rfl rfl rfl (by rw [d26]; rfl) (by rw [d26]; rfl) done_ ?_
  have hgr : gr ≠ y.heap.size := Nat.ne_of_lt (br.call hC).lt
  have hyB : w.heap.size ≤ y.heap.size := Nat.le_trans hZ3.size hC.size
  have hd4 : w4.heap.size ≤ y.heap.size := Nat.le_trans hA.size hC.size
  replace hZ3 := (hZ3.trans (hC.mono hZ3.size)).alloc (hZ3.trans (hC.mono hZ3.size)).size (.cells ds 34)
  replace hA := (hA.trans (hC.mono hA.size)).alloc (hA.trans (hC.mono hA.size)).size (.cells ds 34)
  replace br := (br.call hC).alloc (.cells ds 34)
  have bd := Blk.new y 34 ds
  have hD1 := hD.below ((Below.refl y.heap.size y).alloc (Nat.le_refl _) (.cells ds 34)) (Nat.le_refl _)
  obtain ⟨gd, hgd⟩ : ∃ x, x = y.heap.size := ⟨_, rfl⟩
  obtain ⟨w7, hwx⟩ : ∃ x, x = y.alloc (.cells ds 34) := ⟨_, rfl⟩
  rw [← hwx] at hZ3 hA br bd hD1
  rw [← hwx]
  rw [← hgd] at bd hgr hyB hd4
  rw [← hgd]
  clear hwx hgd hC hD dl HBG
  have x26 := (boxedCell br 26).trans r26a
  have f26 := boxedFree br 26
  go_upto_region 7 with fail
  -- the tag is told
  have hD2 := hD1.apart (w' := w7.setCell ⟨gr, 26, none⟩ (.string ⟨#[120]⟩)) br nobA rfl (fun k hk => set_far w7 ⟨gr, 26, none⟩ _ k hk) (Nat.le_of_eq (World.size_setCell _ _ _).symm)
  replace hZ3 := hZ3.setCell (p := ⟨gr, 26, none⟩) hgB (.string ⟨#[120]⟩)
  replace hA := hA.setCell (p := ⟨gr, 26, none⟩) hg4 (.string ⟨#[120]⟩)
  replace bd := bd.far (p := ⟨gr, 26, none⟩) (Ne.symm hgr) (.string ⟨#[120]⟩)
  replace br : Blk _ gr 32 (ra.setIfInBounds 26 (.string ⟨#[120]⟩)) := br.set_ 26 (.string ⟨#[120]⟩)
  obtain ⟨rb, hra⟩ : ∃ zz, zz = ra.setIfInBounds 26 (.string ⟨#[120]⟩) := ⟨_, rfl⟩
  replace s38 : rb.size = 38 := by rw [hra, Array.size_setIfInBounds, s38]
  obtain ⟨w8, hwx⟩ : ∃ zz, zz = w7.setCell ⟨gr, 26, none⟩ (.string ⟨#[120]⟩) := ⟨_, rfl⟩
  rw [← hra] at br
  rw [← hwx] at hZ3 hA bd hD2 br
  rw [← hwx]
  clear hwx
  have hRb := Lib.hid (show RReq w4 (.agg rb) (rqT n) from by rw [hra]; exact hRa.out.setTo [120])
  have nobB : NoB rb := by rw [hra]; exact nobA.set 26 rfl
  clear hra x26 f26 r26a hD1 nobA hRa HR4
  have hdB := hyB
  have bgr := br.lt
  have bgd := bd.lt
  go_wp2
  go_loopw [8, 9] (fun s8 s9 wr => ∃ (k : Nat) (m sq : Int) (vs rx : Array Value), k ≤ L.length ∧ s9 = .int .i64 k ∧ s8 = .int .i64 m ∧ Below w.heap.size w wr ∧ Below w4.heap.size w4 wr ∧ Blk wr gd 34 vs ∧ Blk wr gr 32 rx ∧ NoB rx ∧ rx.size = 38 ∧ RReq w4 (.agg rx) (rqT sq) ∧ RDlg wr (.agg vs) (dA m)) (fun _ s9 _ => L.length - (intOf s9).toNat)
  case atStart => exact ⟨0, n, n, ds, rb, Nat.zero_le _, rfl, rfl, hZ3, hA, bd, br, nobB, s38, hRb.out, hD2⟩
  case round =>
    clear hZ3 hA bd br nobB s38 hRb hD2 bgr bgd d26 done_
    obtain ⟨k, m, sq, vs, rx, hk, rfl, rfl, hZ, hA, bd, br, nob, s38, hR, hD⟩ := hrel
    by_cases hlt : k < L.length
    · obtain ⟨b, off, rfl, hb1, hc1⟩ := HL.out (by omega)
      have c0 := hc1 k hlt
      obtain ⟨x, hx⟩ : ∃ x, x = L[k] := ⟨_, rfl⟩
      rw [← hx] at c0
      have c1 := c0
      rw [← hZ.cell (p := ⟨b, off + k, none⟩) hb1] at c1
      have k0 : (0 : Int) ≤ (k : Int) := by omega
      have k1 : (k : Int) < (L.length : Int) := by omega
      obtain ⟨vs', ev, d26, done_, dl, _, hD⟩ := hD.row
      injection ev with ev
      subst ev
      have NOBD := Lib.hid hD.noB
      obtain ⟨rx', er, _, _, _, _, r28, _, hR⟩ := hR.row
      injection er with er
      subst er
      have x28 := (boxedCell br 28).trans r28
      have f28 := boxedFree br 28
      clear hc1 hx HV
      go_upto_region 12 with fail
      have hD2 := hD.apart (w' := wr.setCell ⟨gr, 28, none⟩ (.int .i64 x)) br nob rfl (fun k hk => set_far wr ⟨gr, 28, none⟩ _ k hk) (Nat.le_of_eq (World.size_setCell _ _ _).symm)
      replace hZ := hZ.setCell (p := ⟨gr, 28, none⟩) hgB (.int .i64 x)
      replace hA := hA.setCell (p := ⟨gr, 28, none⟩) hg4 (.int .i64 x)
      replace bd := bd.far (p := ⟨gr, 28, none⟩) (Ne.symm hgr) (.int .i64 x)
      replace br : Blk _ gr 32 (rx.setIfInBounds 28 (.int .i64 x)) := br.set_ 28 (.int .i64 x)
      obtain ⟨rb, hra⟩ : ∃ zz, zz = rx.setIfInBounds 28 (.int .i64 x) := ⟨_, rfl⟩
      replace s38 : rb.size = 38 := by rw [hra, Array.size_setIfInBounds, s38]
      obtain ⟨w10, hwx⟩ : ∃ zz, zz = wr.setCell ⟨gr, 28, none⟩ (.int .i64 x) := ⟨_, rfl⟩
      rw [← hra] at br
      rw [← hwx] at hZ hA bd hD2 br
      rw [← hwx]
      clear hwx
      have hRb := Lib.hid (show RReq w4 (.agg rb) (rqT x) from by rw [hra]; exact hR.setSeq x)
      have nobB : NoB rb := by rw [hra]; exact nob.set 28 rfl
      clear hra x28 f28 r28 nob hD
      clear c1
      have HT1 := Lib.hid (take_c vs (.agg rb) (dA m) (rqT x) w10 hD2 (hRb.out.below hA (Nat.le_refl _)) d0A_b1 d0A_b2 (rqT_b3 x))
      by_cases hle : x ≤ m
      · rw [take_le hle] at HT1
        dsimp only at HT1
        go_wp2_with (with_reducible refine holdLoad 34 rfl ?_)
        unfold Hold
        refine wpList_loadB (vs := vs) rfl rfl rfl Tryz.underlying34 (by rw [d26]; rfl) bd (whole _) ?_
        go_wp2_with (with_reducible refine holdLoad 32 rfl ?_)
        unfold Hold
        refine wpList_loadB (vs := rb) rfl rfl rfl Tryz.underlying32 (by rw [s38]; rfl) br (whole _) ?_
        go_wp2_with (first | (go_at_call 22; refine HT1.out.mono ?_; rintro e y1 ⟨xs, rfl, hT, _, hC⟩) | (with_reducible refine holdStore 34 rfl ?_))
        unfold Hold
        obtain ⟨t', et, t26, tone, tl, _, hT⟩ := hT.row
        injection et with et
        subst et
        refine wpList_storeNew (vs := xs) rfl rfl rfl rfl (by rw [t26]; rfl) (by rw [t26]; rfl) tone ?_
        replace hZ := (hZ.trans (hC.mono hZ.size)).alloc (hZ.trans (hC.mono hZ.size)).size (.cells xs 34)
        replace hA := (hA.trans (hC.mono hA.size)).alloc (hA.trans (hC.mono hA.size)).size (.cells xs 34)
        have hgx : gd ≠ y1.heap.size := Nat.ne_of_lt (bd.call hC).lt
        replace bd := (bd.call hC).alloc (.cells xs 34)
        replace br := (br.call hC).alloc (.cells xs 34)
        have bx := Blk.new y1 34 xs
        replace hT := hT.below ((Below.refl y1.heap.size y1).alloc (Nat.le_refl _) (.cells xs 34)) (Nat.le_refl _)
        obtain ⟨gx, hgx2⟩ : ∃ x, x = y1.heap.size := ⟨_, rfl⟩
        obtain ⟨w11, hwx⟩ : ∃ x, x = y1.alloc (.cells xs 34) := ⟨_, rfl⟩
        rw [← hwx] at hZ hA bd br bx hT
        rw [← hwx]
        rw [← hgx2] at bx hgx
        rw [← hgx2]
        clear hwx hgx2 hC HT1
        have HT2 := Lib.hid (take_c xs (.agg rb) (dA m) (rqT x) w11 hT (hRb.out.below hA (Nat.le_refl _)) d0A_b1 d0A_b2 (rqT_b3 x))
        rw [take_le hle] at HT2
        dsimp only at HT2
        go_wp2_with (with_reducible refine holdLoad 34 rfl ?_)
        unfold Hold
        refine wpList_loadB (vs := xs) rfl rfl rfl Tryz.underlying34 (by rw [t26]; rfl) bx (whole _) ?_
        go_wp2_with (with_reducible refine holdLoad 32 rfl ?_)
        unfold Hold
        refine wpList_loadB (vs := rb) rfl rfl rfl Tryz.underlying32 (by rw [s38]; rfl) br (whole _) ?_
        go_wp2_with (first | (go_at_call 22; refine HT2.out.mono ?_; rintro e y2 ⟨ys, rfl, hT2, _, hC⟩) | (with_reducible refine holdStore 34 rfl ?_))
        unfold Hold
        obtain ⟨t2', et2, u26, uone, _, _, _⟩ := hT2.row
        injection et2 with et2
        subst et2
        refine wpList_storeNew (vs := ys) rfl rfl rfl rfl (by rw [u26]; rfl) (by rw [u26]; rfl) uone ?_
        replace hZ := (hZ.trans (hC.mono hZ.size)).alloc (hZ.trans (hC.mono hZ.size)).size (.cells ys 34)
        replace hA := (hA.trans (hC.mono hA.size)).alloc (hA.trans (hC.mono hA.size)).size (.cells ys 34)
        replace bd := (bd.call hC).alloc (.cells ys 34)
        replace br := (br.call hC).alloc (.cells ys 34)
        replace bx := (bx.call hC).alloc (.cells ys 34)
        replace hT := (hT.below hC (Nat.le_refl _)).below ((Below.refl y2.heap.size y2).alloc (Nat.le_refl _) (.cells ys 34)) (Nat.le_refl _)
        obtain ⟨w12, hwx⟩ : ∃ x, x = y2.alloc (.cells ys 34) := ⟨_, rfl⟩
        rw [← hwx] at hZ hA bd br bx hT
        rw [← hwx]
        clear hwx hC hT2 HT2 uone u26
        have c9 := c0
        rw [← hZ.cell (p := ⟨b, off + k, none⟩) hb1] at c9
        have q1 : decide (m < x) = false := by simp; omega
        go_wp2_with (with_reducible refine holdLoad 34 rfl ?_)
        unfold Hold
        refine wpList_loadB (vs := xs) rfl rfl rfl Tryz.underlying34 (by rw [t26]; rfl) bx (whole _) ?_
        go_wp2_with (with_reducible refine holdStore 34 rfl ?_)
        unfold Hold
        refine wpList_storeB (vs := xs) rfl rfl rfl rfl (by rw [t26]; rfl) bd (by rw [t26, d26]; omega) tone (setAll_whole (by rw [d26, t26])) ?_
        intro w13 bd13 hfar hsz hbel
        have hT13 := hT.apart bd NOBD.out rfl hfar (Nat.le_of_eq hsz.symm)
        have hZ13 := hZ.trans (hbel _ hdB)
        have hA13 := hA.trans (hbel _ hd4)
        have br13 : Blk w13 gr 32 rb := (hfar _ hgr).trans br
        have z24 : w13.cell? ⟨gd, 24, none⟩ = some (.int .i64 m) := (boxedCell bd13 24).trans tl
        clear bx
        go_wp2
        refine ⟨⟨k + 1, m, x, xs, rb, by omega, by go_num, rfl, hZ13, hA13, bd13, br13, nobB, s38, hRb.out, hT13⟩, ?_⟩
        simp [intOf]; omega
      · rw [take_gt hle] at HT1
        dsimp only at HT1
        go_wp2_with (with_reducible refine holdLoad 34 rfl ?_)
        unfold Hold
        refine wpList_loadB (vs := vs) rfl rfl rfl Tryz.underlying34 (by rw [d26]; rfl) bd (whole _) ?_
        go_wp2_with (with_reducible refine holdLoad 32 rfl ?_)
        unfold Hold
        refine wpList_loadB (vs := rb) rfl rfl rfl Tryz.underlying32 (by rw [s38]; rfl) br (whole _) ?_
        go_wp2_with (first | (go_at_call 22; refine HT1.out.mono ?_; rintro e y1 ⟨xs, rfl, hT, _, hC⟩) | (with_reducible refine holdStore 34 rfl ?_))
        unfold Hold
        obtain ⟨t', et, t26, tone, tl, _, hT⟩ := hT.row
        injection et with et
        subst et
        refine wpList_storeNew (vs := xs) rfl rfl rfl rfl (by rw [t26]; rfl) (by rw [t26]; rfl) tone ?_
        replace hZ := (hZ.trans (hC.mono hZ.size)).alloc (hZ.trans (hC.mono hZ.size)).size (.cells xs 34)
        replace hA := (hA.trans (hC.mono hA.size)).alloc (hA.trans (hC.mono hA.size)).size (.cells xs 34)
        have hgx : gd ≠ y1.heap.size := Nat.ne_of_lt (bd.call hC).lt
        replace bd := (bd.call hC).alloc (.cells xs 34)
        replace br := (br.call hC).alloc (.cells xs 34)
        have bx := Blk.new y1 34 xs
        replace hT := hT.below ((Below.refl y1.heap.size y1).alloc (Nat.le_refl _) (.cells xs 34)) (Nat.le_refl _)
        obtain ⟨gx, hgx2⟩ : ∃ x, x = y1.heap.size := ⟨_, rfl⟩
        obtain ⟨w11, hwx⟩ : ∃ x, x = y1.alloc (.cells xs 34) := ⟨_, rfl⟩
        rw [← hwx] at hZ hA bd br bx hT
        rw [← hwx]
        rw [← hgx2] at bx hgx
        rw [← hgx2]
        clear hwx hgx2 hC HT1
        have HT2 := Lib.hid (take_c xs (.agg rb) (dA x) (rqT x) w11 hT (hRb.out.below hA (Nat.le_refl _)) d0A_b1 d0A_b2 (rqT_b3 x))
        rw [take_le (Int.le_refl x)] at HT2
        dsimp only at HT2
        go_wp2_with (with_reducible refine holdLoad 34 rfl ?_)
        unfold Hold
        refine wpList_loadB (vs := xs) rfl rfl rfl Tryz.underlying34 (by rw [t26]; rfl) bx (whole _) ?_
        go_wp2_with (with_reducible refine holdLoad 32 rfl ?_)
        unfold Hold
        refine wpList_loadB (vs := rb) rfl rfl rfl Tryz.underlying32 (by rw [s38]; rfl) br (whole _) ?_
        go_wp2_with (first | (go_at_call 22; refine HT2.out.mono ?_; rintro e y2 ⟨ys, rfl, hT2, _, hC⟩) | (with_reducible refine holdStore 34 rfl ?_))
        unfold Hold
        obtain ⟨t2', et2, u26, uone, _, _, _⟩ := hT2.row
        injection et2 with et2
        subst et2
        refine wpList_storeNew (vs := ys) rfl rfl rfl rfl (by rw [u26]; rfl) (by rw [u26]; rfl) uone ?_
        replace hZ := (hZ.trans (hC.mono hZ.size)).alloc (hZ.trans (hC.mono hZ.size)).size (.cells ys 34)
        replace hA := (hA.trans (hC.mono hA.size)).alloc (hA.trans (hC.mono hA.size)).size (.cells ys 34)
        replace bd := (bd.call hC).alloc (.cells ys 34)
        replace br := (br.call hC).alloc (.cells ys 34)
        replace bx := (bx.call hC).alloc (.cells ys 34)
        replace hT := (hT.below hC (Nat.le_refl _)).below ((Below.refl y2.heap.size y2).alloc (Nat.le_refl _) (.cells ys 34)) (Nat.le_refl _)
        obtain ⟨w12, hwx⟩ : ∃ x, x = y2.alloc (.cells ys 34) := ⟨_, rfl⟩
        rw [← hwx] at hZ hA bd br bx hT
        rw [← hwx]
        clear hwx hC hT2 HT2 uone u26
        have c9 := c0
        rw [← hZ.cell (p := ⟨b, off + k, none⟩) hb1] at c9
        have q1 : decide (m < x) = true := by simp; omega
        go_wp2_with (with_reducible refine holdLoad 34 rfl ?_)
        unfold Hold
        refine wpList_loadB (vs := xs) rfl rfl rfl Tryz.underlying34 (by rw [t26]; rfl) bx (whole _) ?_
        go_wp2_with (with_reducible refine holdStore 34 rfl ?_)
        unfold Hold
        refine wpList_storeB (vs := xs) rfl rfl rfl rfl (by rw [t26]; rfl) bd (by rw [t26, d26]; omega) tone (setAll_whole (by rw [d26, t26])) ?_
        intro w13 bd13 hfar hsz hbel
        have hT13 := hT.apart bd NOBD.out rfl hfar (Nat.le_of_eq hsz.symm)
        have hZ13 := hZ.trans (hbel _ hdB)
        have hA13 := hA.trans (hbel _ hd4)
        have br13 : Blk w13 gr 32 rb := (hfar _ hgr).trans br
        have z24 : w13.cell? ⟨gd, 24, none⟩ = some (.int .i64 x) := (boxedCell bd13 24).trans tl
        clear bx
        go_wp2
        refine ⟨⟨k + 1, x, x, xs, rb, by omega, by go_num, rfl, hZ13, hA13, bd13, br13, nobB, s38, hRb.out, hT13⟩, ?_⟩
        simp [intOf]; omega
    · clear HV
      go_wp2_with (go_at_call 12; refine (HAW.out _ (HM.out.below hZ)).mono ?_; rintro e wz ⟨rfl, hCz⟩)
      go_ret
      exact ⟨rfl, hZ.trans (hCz.mono hZ.size)⟩

end Go.Proofs.YtipdiddjhimdcaaGreatDoor

namespace Go.Proofs.YtipdiddjhimdcaaGreatDoor
open Go.ChangeShapes Go.WideShapes Go.ChangeAt Go.RowKit Go.Lib

theorem own : ownKnob Tryz.prog.godebug = none := by kernel_rfl
theorem laidOut : laidOutB Tryz.prog = true := by kernel_rfl

/-- the settled world, the two tables holding what their initialisers lay -/
noncomputable def laidWorld (os : Os) : World :=
  let w0 := World.holding Tryz.prog os ⟨#[], #[], []⟩
  let put (h : Array Obj) (g : Nat) (cs : Array Value) : Array Obj := h.modify g fun
    | .cells _ t frozen => .cells cs t frozen
    | o => o
  let h1 := put w0.heap 1 (Lib.firstTab.map fun z => Value.int .u8 z).toArray
  let h2 := put h1 2 ((List.range 16).flatMap fun i => [Value.int .u8 (Lib.accLo i), Value.int .u8 (Lib.accHi i)]).toArray
  { w0 with heap := h2 }
theorem laid_met (os : Os) (args : Array Value) : laidMet Tryz.prog [("unicode/utf8.acceptRanges", Rows.laid_unicode_utf8_acceptRanges), ("unicode/utf8.first", Rows.laid_unicode_utf8_first)] ((laidWorld os).forCall (fun _ _ => 0) ⟨#[], args, []⟩).memory :=
  (LaidIn.of_run (l := [("unicode/utf8.acceptRanges", Rows.laid_unicode_utf8_acceptRanges), ("unicode/utf8.first", Rows.laid_unicode_utf8_first)]) [2, 1] 8 (by kernel_rfl) (by kernel_rfl) (by kernel_rfl) (by kernel_rfl)).met
/-- what the shape of a world tells of internal/bytealg.MaxLen -/
theorem maxLen_cell {W : World} (h : W.ShapedOpen Tryz.prog) : ∃ m, W.cell? ⟨0, 0, none⟩ = some (.int .i64 m) := Tryz.laysM143.s1_3 W h

end Go.Proofs.YtipdiddjhimdcaaGreatDoor

