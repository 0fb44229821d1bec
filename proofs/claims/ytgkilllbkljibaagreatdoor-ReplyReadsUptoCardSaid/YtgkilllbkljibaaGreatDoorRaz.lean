/- Contracts of Go functions, and plain laws. No condition but those told. -/
import Derived.Test.YtgkilllbkljibaaGreatDoorRan
import Derived.Test.YtgkilllbkljibaaGreatDoorRre
import Derived.Test.YtgkilllbkljibaaGreatDoorR16
import Derived.Test.YtgkilllbkljibaaGreatDoorRpk
set_option linter.unusedSimpArgs false
set_option linter.unusedVariables false
set_option maxRecDepth 100000
namespace Go.Proofs.YtgkilllbkljibaaGreatDoor
open Go.RowKit Go.Sort
theorem aw_print : (printM ansM10).2 = 0 := by decide +kernel
theorem aw_len : (printM ansM10).1.length ≤ 1000 := by decide +kernel
theorem aw_parse : parseS (printM ansM10).1 = (ansM10, 0) := by decide +kernel
theorem aw_to : oneS ansH10 nTo = ([60, 115, 105, 112, 58, 97, 64, 98, 62, 59, 116, 97, 103, 61, 120], true) := by decide +kernel
theorem aw_head : (match headGo [] [] (printM ansM10).1 with | some (t :: _, _) => ((cutb 32 t).2.2 && (cutb 32 (cutb 32 t).2.1).2.2) && same (cutb 32 t).1 ver | _ => true) = true := by decide +kernel
theorem aw_read : (readS plainM10).2 = 0 ∧ (readS plainM10).1.branch = [122, 57, 104, 71, 52, 98, 75, 49] ∧ (readS plainM10).1.fromT = [49] := by decide +kernel
set_option maxRecDepth 100000 in
set_option maxHeartbeats 12800000 in
theorem awake10_c (w : World) (hm : Ml w) : Calls Tryz.prog 8 #[] w fun e w' => e = .returned (.bool true) ∧ Below w.heap.size w w' := by
 have HM := κ hm
 have HPL := κ (fun wx => plain10_c wx)
 have HAN := κ (fun wx u hx hu => answer10_c u wx hx hu)
 obtain ⟨⟨PT, PC⟩, hPT⟩ : ∃ x, x = printM ansM10 := ⟨_, rfl⟩
 have h0 := aw_print
 have h1 := aw_parse
 have h5 := aw_head
 rw [← hPT] at HAN h0 h1 h5
 dsimp only at HAN h0 h1
 have hhd : ∀ t ts rest, headGo [] [] PT = some (t :: ts, rest) → ((cutb 32 t).2.2 = true ∧ (cutb 32 (cutb 32 t).2.1).2.2 = true) ∧ same (cutb 32 t).1 ver = true := fun t ts rest h => by
  dsimp only at h5
  rw [h] at h5
  simpa only [Bool.and_eq_true] using h5
 clear h5
 subst h0
 have hPl : PT.length ≤ 1000 := by have := aw_len; rw [← hPT] at this; exact this
 clear hPT
 have HPS := κ (fun wx => parseRk_c (bs PT) (by rw [size_bs]; omega) (by rw [us_bs]; exact hhd) wx)
 rw [us_bs, h1] at HPS
 clear hhd
 unfold ParsePost at HPS
 dsimp only at HPS
 rw [show mgv ansM10 = fun u => .agg #[.string ⟨#[]⟩, .string ⟨#[]⟩, .int .i64 200, .string ⟨#[79, 75]⟩, u, .string ⟨#[]⟩] from rfl, show ansM10.hdrs = ansH10 from rfl] at HPS
 dsimp only at HPS
 have HON := κ (fun wx u hu => oneR_c' ⟨#[]⟩ ⟨#[]⟩ ⟨#[79, 75]⟩ ⟨#[]⟩ 200 u ansH10 ⟨#[84, 111]⟩ (by decide) wx hu (by decide) (by decide))
 rw [show us ⟨#[84, 111]⟩ = nTo from rfl, aw_to] at HON
 dsimp only at HON
 have HRD := κ (fun wx u hx hu => readRq_c ⟨#[80, 85, 66, 76, 73, 83, 72]⟩ ⟨#[115, 105, 112, 58, 97, 64, 98]⟩ ⟨#[]⟩ ⟨#[]⟩ 0 u plainH10 wx hx hu (by decide) (by decide) (by decide))
 unfold RPost at HRD
 rw [show (⟨us ⟨#[80, 85, 66, 76, 73, 83, 72]⟩, us ⟨#[115, 105, 112, 58, 97, 64, 98]⟩, 0, us ⟨#[]⟩, plainH10, us ⟨#[]⟩⟩ : Mg) = plainM10 from rfl] at HRD
 obtain ⟨⟨rq, rc⟩, hrq⟩ : ∃ x, x = readS plainM10 := ⟨_, rfl⟩
 have h2 := aw_read
 rw [← hrq] at HRD h2
 dsimp only at HRD h2
 obtain ⟨h2, h3, h4⟩ := h2
 subst h2
 clear hrq h1 hm
 obtain ⟨PB, hPB⟩ : ∃ x, x = bs PT := ⟨_, rfl⟩
 rw [← hPB] at HAN HPS
 clear hPB hPl
 have hB : Below w.heap.size w w := Below.refl _ _
 go_enter Tryz.func8, Tryz.ntmps8
 go_upto_region 2 with (first | (go_at_call 15; refine (HPL.out _).mono ?_; rintro e w1 ⟨u, rfl, hu, hC⟩; replace hB := hB.trans (hC.mono hB.size); clear hC; obtain ⟨uo1, uc1, rfl, _, _⟩ := hu.form) | (go_at_call 14; refine (HAN.out _ _ (HM.out.below hB) hu).mono ?_; rintro e w2 ⟨rfl, hC⟩; replace hB := hB.trans (hC.mono hB.size); clear hC hu))
 go_upto_region 3 with (first | (go_at_call 16; refine (HPS.out _).mono ?_; rintro e w3 ⟨u, rfl, hu, _, hC⟩; replace hB := hB.trans (hC.mono hB.size); clear hC; obtain ⟨uo2, uc2, rfl, _, _⟩ := hu.form) | ((with_reducible refine holdStore 24 rfl ?_); unfold Hold; refine wpList_storeNew (vs := #[.string ⟨#[]⟩, .string ⟨#[]⟩, .int .i64 200, .string ⟨#[79, 75]⟩, .slice uo2 ansH10.length uc2, .string ⟨#[]⟩]) rfl rfl rfl rfl (by kernel_rfl) (by kernel_rfl) (by kernel_rfl) ?_; refine wpList_to (fun x => Blk x w3.heap.size 24 #[.string ⟨#[]⟩, .string ⟨#[]⟩, .int .i64 200, .string ⟨#[79, 75]⟩, .slice uo2 ansH10.length uc2, .string ⟨#[]⟩] ∧ RHdrs x (.slice uo2 ansH10.length uc2) ansH10 ∧ Below w.heap.size w x) ⟨Blk.new _ _ _, hu.below ((Below.refl _ _).alloc (ρ _) _) (ρ _), hB.alloc hB.size _⟩ ?_; clear hu hB; rintro w4 ⟨bm, hu, hB⟩))
 go_upto_region 4 with (first | ((with_reducible refine holdLoad 24 rfl ?_); unfold Hold; refine wpList_loadB rfl rfl rfl Tryz.underlying24 (by kernel_rfl) bm (whole _) ?_) | (go_at_call 17; refine (HON.out _ _ hu).mono ?_; rintro e w5 ⟨rfl, hC⟩; replace hB := hB.trans (hC.mono hB.size); clear hC hu bm))
 go_upto_region 5 with (first | (go_at_call 15; refine (HPL.out _).mono ?_; rintro e w1 ⟨u, rfl, hu, hC⟩; replace hB := hB.trans (hC.mono hB.size); clear hC; obtain ⟨uo3, uc3, rfl, _, _⟩ := hu.form) | (go_at_call 9; refine (HRD.out _ _ (HM.out.below hB) hu).mono ?_; rintro e w6 ⟨xs, rfl, hrr, h38, hone, hC⟩; replace hB := hB.trans (hC.mono hB.size); clear hC hu) | ((with_reducible refine holdStore 37 rfl ?_); unfold Hold; refine wpList_storeNew (vs := xs) rfl rfl rfl rfl (by rw [h38]; rfl) (by rw [h38]; rfl) hone ?_; refine wpList_to (fun x => Blk x w6.heap.size 37 xs ∧ Below w.heap.size w x) ⟨Blk.new _ _ _, hB.alloc hB.size _⟩ ?_; clear hB; rintro w7 ⟨br, hB⟩))
 obtain ⟨_, r7, r25, _, _⟩ := hrr.cells
 rw [h3] at r7
 rw [h4] at r25
 have z7 : w7.cell? ⟨w6.heap.size, 7, none⟩ = some (.string ⟨#[122, 57, 104, 71, 52, 98, 75, 49]⟩) := (boxedCell br 7).trans r7
 have z25 : w7.cell? ⟨w6.heap.size, 25, none⟩ = some (.string ⟨#[49]⟩) := (boxedCell br 25).trans r25
 clear r7 r25
 go_wp2_with (go_at_call 18; refine (reason489_c _).mono ?_; rintro e w8 ⟨rfl, rfl⟩)
 go_ret
 exact ⟨rfl, hB⟩
end Go.Proofs.YtgkilllbkljibaaGreatDoor
