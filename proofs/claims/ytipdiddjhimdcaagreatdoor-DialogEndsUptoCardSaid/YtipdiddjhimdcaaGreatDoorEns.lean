/-
  DialogEnds: the walk.
-/
import Derived.Test.YtipdiddjhimdcaaGreatDoorEnA
import Derived.Test.YtipdiddjhimdcaaGreatDoorB19
namespace Go.Proofs.YtipdiddjhimdcaaGreatDoor
set_option linter.unusedSimpArgs false
set_option linter.unusedVariables false
open Go.RowKit Go.Sort


set_option maxRecDepth 100000 in
set_option maxHeartbeats 12800000 in
theorem dialogEnds_walk (n : Int) (n0 : -9223372036854775808 ≤ n) (n1 : n ≤ 9223372036854775807) (w : World) (hm : Ml w) :
    Calls Tryz.prog 9 #[.int .i64 n] w fun e w' => e = .returned (.bool true) ∧ Below w.heap.size w w' := by
  have HM := Lib.hid hm
  have HPL := Lib.hid (fun wx => plainQ_c wx)
  have HBG := Lib.hid (fun wx rs hx hr => begin_c rs ⟨#[120]⟩ plainRq wx hx hr rqB_plain (by decide))
  rw [show us ⟨#[120]⟩ = [120] from rfl, ex18_4] at HBG
  dsimp only at HBG
  have HAW := Lib.hid (fun wx hx => awake18_c wx hx)
  have HNT := Lib.hid (fun wx vs hx hd => notify_c vs ⟨#[112, 97, 46, 104, 111, 109, 101]⟩ ⟨#[122, 57, 104, 71, 52, 98, 75, 49]⟩ ⟨#[]⟩ (.slice none 0 0) [] (dE n) wx hx hd (RHdrs.nil wx) (dlgN_E n) (by decide) (by decide) (by decide) (fun h hh => by cases hh) (by decide))
  rw [show us ⟨#[112, 97, 46, 104, 111, 109, 101]⟩ = lHome from rfl, show us ⟨#[122, 57, 104, 71, 52, 98, 75, 49]⟩ = lBr from rfl, show us (⟨#[]⟩ : ByteArray) = [] from rfl] at HNT
  obtain ⟨T, m, c, hN, hcs⟩ : ∃ T m c, notifyS (dE n) lHome lBr [] [] = (T, dE m, c) ∧ ((n < 0 ∧ T = [] ∧ m = n ∧ c = 80) ∨ (¬ n < 0 ∧ 2147483647 ≤ n ∧ T = [] ∧ m = n ∧ c = 80) ∨ (¬ n < 0 ∧ ¬ 2147483647 ≤ n ∧ 100 < T.length ∧ m = n + 1 ∧ c = 0)) := by
    by_cases h1 : n < 0
    · exact ⟨[], n, 80, ends_out n (.inl h1), .inl ⟨h1, rfl, rfl, rfl⟩⟩
    by_cases h2 : 2147483647 ≤ n
    · exact ⟨[], n, 80, ends_out n (.inr h2), .inr (.inl ⟨h1, h2, rfl, rfl, rfl⟩)⟩
    obtain ⟨t, ht, hl⟩ := ends_text n (by omega) (by omega)
    exact ⟨t, n + 1, 0, ht, .inr (.inr ⟨h1, h2, hl, rfl, rfl⟩)⟩
  rw [hN] at HNT
  dsimp only at HNT
  have HC := Lib.hid hcs
  clear hm hN hcs
  obtain ⟨TB, hTB⟩ : ∃ x, x = bs T := ⟨_, rfl⟩
  rw [← hTB] at HNT
  have HTB := Lib.hid hTB
  clear hTB
  have hB0 : Below w.heap.size w w := Below.refl _ _
  go_enter Tryz.func9, Tryz.ntmps9
  go_wp2_with (first | (go_at_call 26; refine (HPL.out _).mono ?_; rintro e w4 ⟨rs, rfl, _, _, _, hR, hC⟩; have hB0 := hB0.trans (hC.mono hB0.size)) | (go_at_call 10; refine (HBG.out _ _ (HM.out.below hB0) hR).mono ?_; rintro e y ⟨ds, rfl, hD, hC2⟩; have hB0 := hB0.trans (hC2.mono hB0.size)) | (with_reducible refine holdStore 34 rfl ?_))
  unfold Hold
  obtain ⟨ds', ed, d26, done_, _, dl, hD⟩ := hD.row
  injection ed with ed
  subst ed
  refine wpList_storeNew (vs := ds) rfl rfl rfl rfl (by rw [d26]; rfl) (by rw [d26]; rfl) done_ ?_
  have hyB := hB0.size
  have hB1 := hB0.alloc hyB (.cells ds 34)
  clear hB0
  have bd := Blk.new y 34 ds
  have hD1 := hD.below ((Below.refl y.heap.size y).alloc (Nat.le_refl _) (.cells ds 34)) (Nat.le_refl _)
  obtain ⟨gd, hgd⟩ : ∃ x, x = y.heap.size := ⟨_, rfl⟩
  obtain ⟨w7, hwx⟩ : ∃ x, x = y.alloc (.cells ds 34) := ⟨_, rfl⟩
  rw [← hwx] at hB1 bd hD1
  rw [← hwx]
  rw [← hgd] at bd hyB
  rw [← hgd]
  clear hwx hgd hC hC2 hD hR HPL HBG
  have x25 := (boxedCell bd 25).trans dl
  have f25 := boxedFree bd 25
  go_upto_region 5 with fail
  have hD2 := (hD1.apart (w' := w7.setCell ⟨gd, 25, none⟩ (.int .i64 n)) bd hD1.noB rfl (fun k hk => set_far w7 ⟨gd, 25, none⟩ _ k hk) (Nat.le_of_eq (World.size_setCell _ _ _).symm)).setLout n
  have bd2 : Blk (w7.setCell ⟨gd, 25, none⟩ (.int .i64 n)) gd 34 (ds.setIfInBounds 25 (.int .i64 n)) := bd.set_ 25 (.int .i64 n)
  have hB0 := hB1.setCell (p := ⟨gd, 25, none⟩) hyB (.int .i64 n)
  have one2 : ((ds.setIfInBounds 25 (.int .i64 n)).toList.all fun v => v.oneCell') = true := all_setN done_ rfl
  have s26 : (ds.setIfInBounds 25 (.int .i64 n)).size = 26 := by rw [Array.size_setIfInBounds, d26]
  obtain ⟨dn, hdn⟩ : ∃ x, x = ds.setIfInBounds 25 (.int .i64 n) := ⟨_, rfl⟩
  obtain ⟨w8, hw8⟩ : ∃ x, x = w7.setCell ⟨gd, 25, none⟩ (.int .i64 n) := ⟨_, rfl⟩
  rw [← hdn] at bd2 one2 s26 hD2
  rw [← hw8] at bd2 hB0 hD2
  (try rw [← hw8])
  clear hw8 hdn hB1 hD1 bd x25 f25 dl done_ d26
  replace hD2 : RDlg w8 (.agg dn) (dE n) := hD2
  go_wp2_with (with_reducible refine holdLoad 34 rfl ?_)
  unfold Hold
  refine wpList_loadB (vs := dn) rfl rfl rfl Tryz.underlying34 (by rw [s26]; rfl) bd2 (whole _) ?_
  go_wp2_with (first | (go_at_call 13; refine (HNT.out _ _ (HM.out.below hB0) hD2).mono ?_; rintro e y9 ⟨xs, rfl, hX, hC⟩; have hB0 := hB0.trans (hC.mono hB0.size)) | (with_reducible refine holdStore 34 rfl ?_))
  unfold Hold
  obtain ⟨xs', ed, x26, xone, _, xl, hX⟩ := hX.row
  injection ed with ed
  subst ed
  refine wpList_storeNew (vs := xs) rfl rfl rfl rfl (by rw [x26]; rfl) (by rw [x26]; rfl) xone ?_
  have bx := Blk.new y9 34 xs
  have hB1 := hB0.alloc hB0.size (.cells xs 34)
  obtain ⟨gx, hgx⟩ : ∃ x, x = y9.heap.size := ⟨_, rfl⟩
  obtain ⟨w10, hw10⟩ : ∃ x, x = y9.alloc (.cells xs 34) := ⟨_, rfl⟩
  rw [← hw10] at hB1 bx
  rw [← hw10]
  rw [← hgx] at bx
  rw [← hgx]
  have xl : xs[25]? = some (.int .i64 m) := xl
  have x25 : w10.cell? ⟨gx, 25, none⟩ = some (.int .i64 m) := (boxedCell bx 25).trans xl
  clear hB0 hgx hw10 hX hC bd2 hD2 bx xl xone x26 one2 s26 HNT
  have hB0 := hB1
  clear hB1
  rcases HC.out with ⟨h1, rfl, rfl, rfl⟩ | ⟨h1, h2, rfl, rfl, rfl⟩ | ⟨h1, h2, hl, rfl, rfl⟩
  case' inl => obtain rfl : TB = ⟨#[]⟩ := HTB.out
  case' inr.inl => obtain rfl : TB = ⟨#[]⟩ := HTB.out
  case' inr.inr => have hl2 : 100 < TB.size := by rw [HTB.out, size_bs]; exact hl
  case' inr.inr => have hl3 : decide ((100 : Int) < (TB.size : Int)) = true := by simp; omega
  case' inr.inr => clear hl hl2
  all_goals clear HC HTB
  all_goals
    go_wp2_with (go_at_call 12; refine (HAW.out _ (HM.out.below hB0)).mono ?_; rintro e wz ⟨rfl, hCz⟩)
    go_ret
    exact ⟨rfl, hB0.trans (hCz.mono hB0.size)⟩

end Go.Proofs.YtipdiddjhimdcaaGreatDoor
