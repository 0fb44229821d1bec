/- Contracts of Go functions, and plain laws. No condition but those told. -/
import Derived.Test.YtgkilllbkljibaaGreatDoorRcl
import Derived.Test.YtgkilllbkljibaaGreatDoorR08
set_option linter.unusedSimpArgs false
set_option linter.unusedVariables false
set_option maxRecDepth 100000
namespace Go.Proofs.YtgkilllbkljibaaGreatDoor
open Go.RowKit Go.Sort
def RdC (f : FuncId) (gr gx : Nat) (r : Rqt) (ef : List UInt8 → Int) (g : List UInt8 → Rqt) : Prop := ∀ (x : List UInt8), x.length ≤ 1048576 → ∀ (rs : Array Value) (w : World), rs.size = 38 → Ml w → Blk w gr 37 rs → gx < w.heap.size → RQF gr gx w (.agg rs) r →
 Calls Tryz.prog f #[.string (bs x), .pointer (some ⟨gr, 0, none⟩)] w fun e w' => e = .returned (.int .i64 (ef x)) ∧ (∃ rs', Blk w' gr 37 rs' ∧ (ef x = 0 → RQF gr gx w' (.agg rs') (g x))) ∧ Kp gr gr w w'
theorem callF {P : Program} {f : FuncId} {fn : Func} (hf : P.funcs[f]? = some fn) (hnm : (fn.name == "runtime.NumGoroutine") = false) (hbd : fn.body.isNone = false) (az : Array Value) (w : World) : (callFunc f az).run P w = .ok (.enter f az) w := by
 have h1 : fn.name ≠ "runtime.NumGoroutine" := by simpa using hnm
 have h2 : fn.body ≠ none := by intro e; rw [e] at hbd; cases hbd
 simp [callFunc, hf, h1, h2]
def oneR (H : List Hdr) (n : List UInt8) (r : Rqt) (g : List UInt8 → Rqt) : Rqt := match allS H n with | [x] => g x | _ => r
set_option maxRecDepth 100000 in
set_option maxHeartbeats 12800000 in
theorem oneG_c (f : FuncId) (nm : ByteArray) (hnm : nm.size ≤ 140737488355328) (ef : List UInt8 → Int) (g : List UInt8 → Rqt) (M TG RS B : ByteArray) (X : Int) (u : Value) (H : List Hdr) (er : Int) (gr gx : Nat) (hg : gr < gx) (rs : Array Value) (r : Rqt) (w : World) (hm : Ml w) (hu : RHdrs w u H) (hb : ∀ h ∈ H, h.name.length ≤ 1048576 ∧ h.value.length ≤ 1048576) (hH : H.length ≤ 1048576)
  (hx : Blk w gx 58 #[.string M, .string TG, .int .i64 X, .string RS, u, .string B, .int .i64 er]) (hr : Blk w gr 37 rs) (h38 : er = 0 → rs.size = 38) (hq : er = 0 → RQF gr gx w (.agg rs) r)
  (hcl : RdC f gr gx r ef g) (hf9 : ∀ (az : Array Value) (w : World), (callFunc f az).run Tryz.prog w = .ok (.enter f az) w) :
  Calls Tryz.prog 21 #[.pointer (some ⟨gx, 0, none⟩), .string nm, .func (.func f) #[] #[.pointer (some ⟨gr, 0, none⟩)]] w fun e w' => e = .returned (.tuple #[]) ∧ Blk w' gx 58 #[.string M, .string TG, .int .i64 X, .string RS, u, .string B, .int .i64 (one1 H (us nm) er ef)] ∧ (∃ rs', Blk w' gr 37 rs' ∧ (one1 H (us nm) er ef = 0 → RQF gr gx w' (.agg rs') (oneR H (us nm) r g))) ∧ Kp gr gx w w' := by
 have HM := κ hm
 have HU := κ hu
 obtain ⟨mo, mc, rfl, _, _⟩ := hu.form
 have HAL := κ (fun wx hx => all_c' M TG RS B X (.slice mo H.length mc) H nm (by omega) wx hx (fun h hh => by have := (hb h hh).1; omega) (by omega))
 have hVb : ∀ x ∈ allS H (us nm), x.length ≤ 1048576 := fun x hx => by
  obtain ⟨q, hq, rfl⟩ := allS_mem H (us nm) x hx
  exact (hb q hq).2
 have hkg : gr ≤ w.heap.size := Nat.le_of_lt hr.lt
 unfold one1 oneR
 obtain ⟨VS, hVS⟩ : ∃ VS, VS = allS H (us nm) := ⟨_, rfl⟩
 rw [← hVS] at HAL hVb ⊢
 clear hVS hb hm hu hH
 by_cases he : er = 0
 rotate_left
 ·have t1 : (er != 0) = true := by simpa using he
  rw [if_pos he]
  have HE := κ he
  clear he h38 hq
  go_enter Tryz.func21, Tryz.ntmps21
  go_upto_region 2 with (first | ((with_reducible refine holdLoad 24 rfl ?_); unfold Hold; refine wpList_loadB (vs := #[.string M, .string TG, .int .i64 X, .string RS, .slice mo H.length mc, .string B]) rfl rfl rfl Tryz.underlying24 (by kernel_rfl) hx (by kernel_rfl) ?_) | (go_at_call 50; refine (HAL.out _ HU.out).mono ?_; rintro e w1 ⟨va, rfl, hva, hC⟩; replace hx := hx.call hC; replace hr := hr.call hC; obtain ⟨vo, vc, rfl, _, _⟩ := hva.form))
  have x6 : w1.cell? ⟨gx, 6, none⟩ = some (.int .i64 er) := boxedCell hx 6
  go_wp2
  all_goals (refine bodyPost_end (v := .tuple #[]) (by simp [results, Tryz.results21, go_sem]) rfl ?_)
  all_goals exact ⟨rfl, hx, ⟨rs, hr, fun h => absurd h HE.out⟩, Kp.of_below hC hkg⟩
 subst he
 rw [if_neg (fun h => h rfl)]
 replace h38 := h38 rfl
 replace hq := hq rfl
 rcases VS with _ | ⟨x, _ | ⟨y, l⟩⟩
 ·dsimp only
  go_enter Tryz.func21, Tryz.ntmps21
  go_upto_region 2 with (first | ((with_reducible refine holdLoad 24 rfl ?_); unfold Hold; refine wpList_loadB (vs := #[.string M, .string TG, .int .i64 X, .string RS, .slice mo H.length mc, .string B]) rfl rfl rfl Tryz.underlying24 (by kernel_rfl) hx (by kernel_rfl) ?_) | (go_at_call 50; refine (HAL.out _ HU.out).mono ?_; rintro e w1 ⟨va, rfl, hva, hC⟩; replace hx := hx.call hC; replace hr := hr.call hC; obtain ⟨vo, vc, rfl, _, _⟩ := hva.form))
  have x6 : w1.cell? ⟨gx, 6, none⟩ = some (.int .i64 0) := boxedCell hx 6
  go_wp2
  all_goals (refine bodyPost_end (v := .tuple #[]) (by simp [results, Tryz.results21, go_sem]) rfl ?_)
  all_goals exact ⟨rfl, hx, ⟨rs, hr, fun _ => hq.kp hg (KeptB.of_below hC)⟩, Kp.of_below hC hkg⟩
 ·have hxl : x.length ≤ 1048576 := hVb x (List.mem_singleton.2 rfl)
  have HRD := κ (fun (wx : World) rs h hx hb hlt hq => hcl x hxl rs wx h hx hb hlt hq)
  dsimp only
  go_enter Tryz.func21, Tryz.ntmps21
  go_upto_region 2 with (first | ((with_reducible refine holdLoad 24 rfl ?_); unfold Hold; refine wpList_loadB (vs := #[.string M, .string TG, .int .i64 X, .string RS, .slice mo H.length mc, .string B]) rfl rfl rfl Tryz.underlying24 (by kernel_rfl) hx (by kernel_rfl) ?_) | (go_at_call 50; refine (HAL.out _ HU.out).mono ?_; rintro e w1 ⟨va, rfl, hva, hC⟩; replace hx := hx.call hC; replace hr := hr.call hC; obtain ⟨vo, vc, rfl, _, _⟩ := hva.form))
  have x6 : w1.cell? ⟨gx, 6, none⟩ = some (.int .i64 0) := boxedCell hx 6
  have hxl2 := hx.lt
  obtain ⟨ao, cap, e9, _, c1⟩ := hva.form
  obtain ⟨b, off, rfl, _, hc0⟩ := c1 (by simp)
  injection e9 with e9
  subst e9
  have y0 : w1.cell? ⟨b, off, none⟩ = some (.string (bs x)) := hc0 0 (by simp)
  go_upto_region 1 with fail
  go_wp2_with (first | ((with_reducible refine (HRD.out _ rs h38 (HM.out.below hC) hr hx.lt (hq.kp hg (KeptB.of_below hC))).mono ?_); rintro e w2 ⟨rfl, ⟨rs2, hr2, hq2⟩, hK⟩; replace hx := (hK.k.blk gx hx.lt (by omega) (by omega)).trans hx) | ((with_reducible refine holdStore 38 rfl ?_); unfold Hold; refine wpList_storeC (off := 6) (v := .int .i64 (ef x)) (cs' := #[.string M, .string TG, .int .i64 X, .string RS, .slice mo H.length mc, .string B, .int .i64 (ef x)]) rfl rfl rfl rfl (by kernel_rfl) hx (Nat.le_of_ble_eq_true (by kernel_rfl)) (by kernel_rfl) (by kernel_rfl) (by kernel_rfl) ?_; intro w8 b8 hf8 hs8 hl8))
  refine bodyPost_end (v := .tuple #[]) (by simp [results, Tryz.results21, go_sem]) rfl ?_
  have hgr : gx ≠ gr := by omega
  exact ⟨rfl, b8, ⟨rs2, (hf8 gr (by omega)).trans hr2, fun h => (hq2 h).kp hg (KeptB.store2 hf8 hs8)⟩, ((Kp.of_below hC hkg).trans hK.wide).trans (Kp.store2 hg hf8 hs8 hl8)⟩
 ·dsimp only
  go_enter Tryz.func21, Tryz.ntmps21
  go_upto_region 2 with (first | ((with_reducible refine holdLoad 24 rfl ?_); unfold Hold; refine wpList_loadB (vs := #[.string M, .string TG, .int .i64 X, .string RS, .slice mo H.length mc, .string B]) rfl rfl rfl Tryz.underlying24 (by kernel_rfl) hx (by kernel_rfl) ?_) | (go_at_call 50; refine (HAL.out _ HU.out).mono ?_; rintro e w1 ⟨va, rfl, hva, hC⟩; replace hx := hx.call hC; replace hr := hr.call hC; obtain ⟨vo, vc, rfl, _, _⟩ := hva.form))
  have x6 : w1.cell? ⟨gx, 6, none⟩ = some (.int .i64 0) := boxedCell hx 6
  have hln : ((1 : Int) < (((x :: y :: l).length : Nat) : Int)) := by simp only [List.length_cons]; omega
  go_wp2_with ((with_reducible refine holdStore 38 rfl ?_); unfold Hold; refine wpList_storeC (off := 6) (v := .int .i64 4) (cs' := #[.string M, .string TG, .int .i64 X, .string RS, .slice mo H.length mc, .string B, .int .i64 4]) rfl rfl rfl rfl (by kernel_rfl) hx (Nat.le_of_ble_eq_true (by kernel_rfl)) (by kernel_rfl) (by kernel_rfl) (by kernel_rfl) ?_; intro w8 b8 hf8 hs8 hl8)
  refine bodyPost_end (v := .tuple #[]) (by simp [results, Tryz.results21, go_sem]) rfl ?_
  exact ⟨rfl, b8, ⟨rs, (hf8 gr (by omega)).trans hr, fun h => absurd h (by decide)⟩, (Kp.of_below hC hkg).trans (Kp.store2 hg hf8 hs8 hl8)⟩
theorem rdc1 {gr gx : Nat} {r : Rqt} (hg : gr < gx) : RdC 22 gr gx r (fun s => (timeS s).2) (fun s => { r with exp := (timeS s).1 }) := by
 intro x hx rs w h38 hm hb hlt hq
 refine (rd1_c (bs x) (by rw [size_bs]; omega) gr gx rs h38 w hm hb).mono ?_
 rw [us_bs]
 rintro e w' ⟨rfl, hb', hK⟩
 exact ⟨rfl, ⟨_, hb', fun _ => (hq.kp hg hK.wide.k).exp_⟩, hK⟩
theorem rdc2 {gr gx : Nat} {r : Rqt} (hg : gr < gx) : RdC 24 gr gx r (fun s => (evS s).2) (fun s => { r with evn := (evS s).1.1, evp := (evS s).1.2 }) := by
 intro x hx rs w h38 hm hb hlt hq
 refine (rd2_c (bs x) (by rw [size_bs]; omega) gr gx rs h38 w hm hb).mono ?_
 rw [us_bs]
 rintro e w' ⟨u, rfl, hb', hu, hF, hK⟩
 exact ⟨rfl, ⟨_, hb', fun _ => (hq.kp hg hK.wide.k).evt_ (RP2.new hu hF hg hlt)⟩, hK⟩
theorem rdc3 {gr gx : Nat} {r : Rqt} (hg : gr < gx) : RdC 26 gr gx r (fun s => (listA s).2) (fun s => { r with contact := (listA s).1 }) := by
 intro x hx rs w h38 hm hb hlt hq
 refine (rd3_c (bs x) (by rw [size_bs]; omega) gr gx rs h38 w hm hb).mono ?_
 rw [us_bs]
 rintro e w' ⟨u, rfl, hb', hu, hK⟩
 exact ⟨rfl, ⟨_, hb', fun _ => (hq.kp hg hK.wide.k).contact_ (hu hg hlt)⟩, hK⟩
theorem rdc4 {gr gx : Nat} {r : Rqt} (hg : gr < gx) : RdC 28 gr gx r (fun _ => 0) (fun s => { r with typ := typeOf s }) := by
 intro x hx rs w h38 hm hb hlt hq
 refine (rd4_c (bs x) (by rw [size_bs]; omega) gr gx rs h38 w hm hb).mono ?_
 rw [us_bs]
 rintro e w' ⟨rfl, hb', hK⟩
 exact ⟨rfl, ⟨_, hb', fun _ => (hq.kp hg hK.wide.k).typ_⟩, hK⟩
theorem rdc5 {gr gx : Nat} {r : Rqt} (hg : gr < gx) : RdC 30 gr gx r (fun s => if token s = true then 0 else 160) (fun s => { r with mat := s }) := by
 intro x hx rs w h38 hm hb hlt hq
 refine (rd5_c (bs x) (by rw [size_bs]; omega) gr gx rs h38 w hm hb).mono ?_
 rw [us_bs]
 rintro e w' ⟨rfl, hb', hK⟩
 exact ⟨rfl, ⟨_, hb', fun _ => (hq.kp hg hK.wide.k).mat_⟩, hK⟩
end Go.Proofs.YtgkilllbkljibaaGreatDoor
