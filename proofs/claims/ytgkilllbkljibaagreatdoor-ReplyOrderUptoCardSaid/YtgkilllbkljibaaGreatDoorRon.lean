/-
  (*reply.rest).one with each of the closures of reply.Read.
-/
import Derived.Test.YtgkilllbkljibaaGreatDoorRcl
namespace Go.Proofs.YtgkilllbkljibaaGreatDoor
set_option linter.unusedSimpArgs false
set_option linter.unusedVariables false
open Go.RowKit Go.Sort

set_option maxRecDepth 100000 in
set_option maxHeartbeats 6400000 in
theorem one1_c (M TG RS B : ByteArray) (X : Int) (u : Value) (H : List Hdr) (er : Int) (gr gx : Nat) (hg : gr < gx) (rs : Array Value) (r : Rqt) (w : World) (hm : Ml w) (hu : RHdrs w u H) (hb : ∀ h ∈ H, h.name.length ≤ 1048576 ∧ h.value.length ≤ 1048576) (hH : H.length ≤ 1048576)
    (hx : Blk w gx 58 #[.string M, .string TG, .int .i64 X, .string RS, u, .string B, .int .i64 er]) (hr : Blk w gr 37 rs) (h38 : er = 0 → rs.size = 38) (hq : er = 0 → RQF gr gx w (.agg rs) r) :
    Calls Tryz.prog 21 #[.pointer (some ⟨gx, 0, none⟩), .string ⟨#[69, 120, 112, 105, 114, 101, 115]⟩, .func (.func 22) #[] #[.pointer (some ⟨gr, 0, none⟩)]] w fun e w' => e = .returned (.tuple #[]) ∧ Blk w' gx 58 #[.string M, .string TG, .int .i64 X, .string RS, u, .string B, .int .i64 (one1 H nExp er (fun s => (timeS s).2))] ∧ (∃ rs', Blk w' gr 37 rs' ∧ (one1 H nExp er (fun s => (timeS s).2) = 0 → RQF gr gx w' (.agg rs') { r with exp := got H nExp r.exp (fun s => (timeS s).1) })) ∧ Kp gr gx w w' := by
  have HM := Lib.hid hm
  have HU := Lib.hid hu
  obtain ⟨mo, mc, rfl, _, _⟩ := hu.form
  have HAL := Lib.hid (fun wx hx => all_c' M TG RS B X (.slice mo H.length mc) H ⟨#[69, 120, 112, 105, 114, 101, 115]⟩ (by decide) wx hx (fun h hh => by have := (hb h hh).1; omega) (by omega))
  rw [show us ⟨#[69, 120, 112, 105, 114, 101, 115]⟩ = nExp from rfl] at HAL
  have hVb : ∀ x ∈ allS H nExp, x.length ≤ 1048576 := fun x hx => by
    obtain ⟨q, hq, rfl⟩ := allS_mem H nExp x hx
    exact (hb q hq).2
  have hkg : gr ≤ w.heap.size := Nat.le_of_lt hr.lt
  unfold one1 got
  obtain ⟨VS, hVS⟩ : ∃ VS, VS = allS H nExp := ⟨_, rfl⟩
  rw [← hVS] at HAL hVb ⊢
  clear hVS hb hm hu hH
  by_cases he : er = 0
  rotate_left
  · have t1 : (er != 0) = true := by simpa using he
    rw [if_pos he]
    have HE := Lib.hid he
    clear he h38 hq
    go_enter Tryz.func21, Tryz.ntmps21
    go_upto_region 2 with (first | ((with_reducible refine holdLoad 24 rfl ?_); unfold Hold; refine wpList_loadB (vs := #[.string M, .string TG, .int .i64 X, .string RS, .slice mo H.length mc, .string B]) rfl rfl rfl Tryz.underlying24 (by kernel_rfl) hx (by kernel_rfl) ?_) | (go_at_call 50; refine (HAL.out _ HU.out).mono ?_; rintro e w1 ⟨va, rfl, hva, hC⟩; replace hx := hx.call hC; replace hr := hr.call hC; obtain ⟨vo, vc, rfl, _, _⟩ := hva.form))
    have x6 : w1.cell? ⟨gx, 6, none⟩ = some (.int .i64 er) := boxedCell hx 6
    go_wp2
    all_goals (refine bodyPost_end (v := .tuple #[]) (by simp [results, Tryz.results21, go_sem]) rfl ?_)
    all_goals exact ⟨rfl, hx, ⟨rs, hr, fun h => absurd h HE.out⟩, Kp.of_below hC hkg⟩
  subst he
  rw [if_neg (fun h => h rfl)]
  replace h38 := h38 rfl
  replace hq := hq rfl
  rcases VS with _ | ⟨x, _ | ⟨y, l⟩⟩
  · dsimp only
    go_enter Tryz.func21, Tryz.ntmps21
    go_upto_region 2 with (first | ((with_reducible refine holdLoad 24 rfl ?_); unfold Hold; refine wpList_loadB (vs := #[.string M, .string TG, .int .i64 X, .string RS, .slice mo H.length mc, .string B]) rfl rfl rfl Tryz.underlying24 (by kernel_rfl) hx (by kernel_rfl) ?_) | (go_at_call 50; refine (HAL.out _ HU.out).mono ?_; rintro e w1 ⟨va, rfl, hva, hC⟩; replace hx := hx.call hC; replace hr := hr.call hC; obtain ⟨vo, vc, rfl, _, _⟩ := hva.form))
    have x6 : w1.cell? ⟨gx, 6, none⟩ = some (.int .i64 0) := boxedCell hx 6
    go_wp2
    all_goals (refine bodyPost_end (v := .tuple #[]) (by simp [results, Tryz.results21, go_sem]) rfl ?_)
    all_goals exact ⟨rfl, hx, ⟨rs, hr, fun _ => hq.kp hg (KeptB.of_below hC)⟩, Kp.of_below hC hkg⟩
  · have hxl : x.length ≤ 1048576 := hVb x (List.mem_singleton.2 rfl)
    have HRD := Lib.hid (fun (wx : World) rs h hx hb => rd1_c (bs x) (by rw [size_bs]; omega) gr gx rs h wx hx hb)
    rw [us_bs] at HRD
    dsimp only
    go_enter Tryz.func21, Tryz.ntmps21
    go_upto_region 2 with (first | ((with_reducible refine holdLoad 24 rfl ?_); unfold Hold; refine wpList_loadB (vs := #[.string M, .string TG, .int .i64 X, .string RS, .slice mo H.length mc, .string B]) rfl rfl rfl Tryz.underlying24 (by kernel_rfl) hx (by kernel_rfl) ?_) | (go_at_call 50; refine (HAL.out _ HU.out).mono ?_; rintro e w1 ⟨va, rfl, hva, hC⟩; replace hx := hx.call hC; replace hr := hr.call hC; obtain ⟨vo, vc, rfl, _, _⟩ := hva.form))
    have x6 : w1.cell? ⟨gx, 6, none⟩ = some (.int .i64 0) := boxedCell hx 6
    have hxl2 := hx.lt
    obtain ⟨ao, cap, e9, _, c1⟩ := hva.form
    obtain ⟨b, off, rfl, _, hc0⟩ := c1 (by simp)
    injection e9 with e9
    subst e9
    have y0 : w1.cell? ⟨b, off, none⟩ = some (.string (bs x)) := hc0 0 (by simp)
    go_upto_region 1 with fail
    go_wp2_with (first | (go_at_call 22; refine (HRD.out _ rs h38 (HM.out.below hC) hr).mono ?_; rintro e w2 ⟨rfl, hr2, hK⟩; replace hx := (hK.k.blk gx hx.lt (by omega) (by omega)).trans hx) | ((with_reducible refine holdStore 38 rfl ?_); unfold Hold; refine wpList_storeC (off := 6) (v := .int .i64 ((fun s => (timeS s).2) x)) (cs' := #[.string M, .string TG, .int .i64 X, .string RS, .slice mo H.length mc, .string B, .int .i64 ((fun s => (timeS s).2) x)]) rfl rfl rfl rfl (by kernel_rfl) hx (Nat.le_of_ble_eq_true (by kernel_rfl)) (by kernel_rfl) (by kernel_rfl) (by kernel_rfl) ?_; intro w8 b8 hf8 hs8 hl8))
    refine bodyPost_end (v := .tuple #[]) (by simp [results, Tryz.results21, go_sem]) rfl ?_
    have hgr : gx ≠ gr := by omega
    first | exact ⟨rfl, b8, ⟨_, (hf8 gr (by omega)).trans hr2, fun _ => RQF.kp (((hq.kp hg (KeptB.of_below hC)).kp hg hK.wide.k).exp_) hg (KeptB.store2 hf8 hs8)⟩, ((Kp.of_below hC hkg).trans hK.wide).trans (Kp.store2 hg hf8 hs8 hl8)⟩ | exact ⟨rfl, b8, ⟨_, (hf8 gr (by omega)).trans hr2, RQF.kp (((hq.kp hg (KeptB.of_below hC)).kp hg hK.wide.k).exp_) hg (KeptB.store2 hf8 hs8)⟩, ((Kp.of_below hC hkg).trans hK.wide).trans (Kp.store2 hg hf8 hs8 hl8)⟩ | exact ⟨rfl, b8, ⟨_, (hf8 gr (by omega)).trans hr2⟩, ((Kp.of_below hC hkg).trans hK.wide).trans (Kp.store2 hg hf8 hs8 hl8)⟩
  · dsimp only
    go_enter Tryz.func21, Tryz.ntmps21
    go_upto_region 2 with (first | ((with_reducible refine holdLoad 24 rfl ?_); unfold Hold; refine wpList_loadB (vs := #[.string M, .string TG, .int .i64 X, .string RS, .slice mo H.length mc, .string B]) rfl rfl rfl Tryz.underlying24 (by kernel_rfl) hx (by kernel_rfl) ?_) | (go_at_call 50; refine (HAL.out _ HU.out).mono ?_; rintro e w1 ⟨va, rfl, hva, hC⟩; replace hx := hx.call hC; replace hr := hr.call hC; obtain ⟨vo, vc, rfl, _, _⟩ := hva.form))
    have x6 : w1.cell? ⟨gx, 6, none⟩ = some (.int .i64 0) := boxedCell hx 6
    have hln : ((1 : Int) < (((x :: y :: l).length : Nat) : Int)) := by simp only [List.length_cons]; omega
    go_wp2_with ((with_reducible refine holdStore 38 rfl ?_); unfold Hold; refine wpList_storeC (off := 6) (v := .int .i64 4) (cs' := #[.string M, .string TG, .int .i64 X, .string RS, .slice mo H.length mc, .string B, .int .i64 4]) rfl rfl rfl rfl (by kernel_rfl) hx (Nat.le_of_ble_eq_true (by kernel_rfl)) (by kernel_rfl) (by kernel_rfl) (by kernel_rfl) ?_; intro w8 b8 hf8 hs8 hl8)
    refine bodyPost_end (v := .tuple #[]) (by simp [results, Tryz.results21, go_sem]) rfl ?_
    exact ⟨rfl, b8, ⟨rs, (hf8 gr (by omega)).trans hr, fun h => absurd h (by decide)⟩, (Kp.of_below hC hkg).trans (Kp.store2 hg hf8 hs8 hl8)⟩

set_option maxRecDepth 100000 in
set_option maxHeartbeats 6400000 in
theorem one2_c (M TG RS B : ByteArray) (X : Int) (u : Value) (H : List Hdr) (er : Int) (gr gx : Nat) (hg : gr < gx) (rs : Array Value) (r : Rqt) (w : World) (hm : Ml w) (hu : RHdrs w u H) (hb : ∀ h ∈ H, h.name.length ≤ 1048576 ∧ h.value.length ≤ 1048576) (hH : H.length ≤ 1048576)
    (hx : Blk w gx 58 #[.string M, .string TG, .int .i64 X, .string RS, u, .string B, .int .i64 er]) (hr : Blk w gr 37 rs) (h38 : er = 0 → rs.size = 38) (hq : er = 0 → RQF gr gx w (.agg rs) r) :
    Calls Tryz.prog 21 #[.pointer (some ⟨gx, 0, none⟩), .string ⟨#[69, 118, 101, 110, 116]⟩, .func (.func 24) #[] #[.pointer (some ⟨gr, 0, none⟩)]] w fun e w' => e = .returned (.tuple #[]) ∧ Blk w' gx 58 #[.string M, .string TG, .int .i64 X, .string RS, u, .string B, .int .i64 (one1 H nEvent er (fun s => (evS s).2))] ∧ (∃ rs', Blk w' gr 37 rs' ∧ (one1 H nEvent er (fun s => (evS s).2) = 0 → RQF gr gx w' (.agg rs') { r with evn := got H nEvent r.evn (fun s => (evS s).1.1), evp := got H nEvent r.evp (fun s => (evS s).1.2) })) ∧ Kp gr gx w w' := by
  have HM := Lib.hid hm
  have HU := Lib.hid hu
  obtain ⟨mo, mc, rfl, _, _⟩ := hu.form
  have HAL := Lib.hid (fun wx hx => all_c' M TG RS B X (.slice mo H.length mc) H ⟨#[69, 118, 101, 110, 116]⟩ (by decide) wx hx (fun h hh => by have := (hb h hh).1; omega) (by omega))
  rw [show us ⟨#[69, 118, 101, 110, 116]⟩ = nEvent from rfl] at HAL
  have hVb : ∀ x ∈ allS H nEvent, x.length ≤ 1048576 := fun x hx => by
    obtain ⟨q, hq, rfl⟩ := allS_mem H nEvent x hx
    exact (hb q hq).2
  have hkg : gr ≤ w.heap.size := Nat.le_of_lt hr.lt
  unfold one1 got
  obtain ⟨VS, hVS⟩ : ∃ VS, VS = allS H nEvent := ⟨_, rfl⟩
  rw [← hVS] at HAL hVb ⊢
  clear hVS hb hm hu hH
  by_cases he : er = 0
  rotate_left
  · have t1 : (er != 0) = true := by simpa using he
    rw [if_pos he]
    have HE := Lib.hid he
    clear he h38 hq
    go_enter Tryz.func21, Tryz.ntmps21
    go_upto_region 2 with (first | ((with_reducible refine holdLoad 24 rfl ?_); unfold Hold; refine wpList_loadB (vs := #[.string M, .string TG, .int .i64 X, .string RS, .slice mo H.length mc, .string B]) rfl rfl rfl Tryz.underlying24 (by kernel_rfl) hx (by kernel_rfl) ?_) | (go_at_call 50; refine (HAL.out _ HU.out).mono ?_; rintro e w1 ⟨va, rfl, hva, hC⟩; replace hx := hx.call hC; replace hr := hr.call hC; obtain ⟨vo, vc, rfl, _, _⟩ := hva.form))
    have x6 : w1.cell? ⟨gx, 6, none⟩ = some (.int .i64 er) := boxedCell hx 6
    go_wp2
    all_goals (refine bodyPost_end (v := .tuple #[]) (by simp [results, Tryz.results21, go_sem]) rfl ?_)
    all_goals exact ⟨rfl, hx, ⟨rs, hr, fun h => absurd h HE.out⟩, Kp.of_below hC hkg⟩
  subst he
  rw [if_neg (fun h => h rfl)]
  replace h38 := h38 rfl
  replace hq := hq rfl
  rcases VS with _ | ⟨x, _ | ⟨y, l⟩⟩
  · dsimp only
    go_enter Tryz.func21, Tryz.ntmps21
    go_upto_region 2 with (first | ((with_reducible refine holdLoad 24 rfl ?_); unfold Hold; refine wpList_loadB (vs := #[.string M, .string TG, .int .i64 X, .string RS, .slice mo H.length mc, .string B]) rfl rfl rfl Tryz.underlying24 (by kernel_rfl) hx (by kernel_rfl) ?_) | (go_at_call 50; refine (HAL.out _ HU.out).mono ?_; rintro e w1 ⟨va, rfl, hva, hC⟩; replace hx := hx.call hC; replace hr := hr.call hC; obtain ⟨vo, vc, rfl, _, _⟩ := hva.form))
    have x6 : w1.cell? ⟨gx, 6, none⟩ = some (.int .i64 0) := boxedCell hx 6
    go_wp2
    all_goals (refine bodyPost_end (v := .tuple #[]) (by simp [results, Tryz.results21, go_sem]) rfl ?_)
    all_goals exact ⟨rfl, hx, ⟨rs, hr, fun _ => hq.kp hg (KeptB.of_below hC)⟩, Kp.of_below hC hkg⟩
  · have hxl : x.length ≤ 1048576 := hVb x (List.mem_singleton.2 rfl)
    have HRD := Lib.hid (fun (wx : World) rs h hx hb => rd2_c (bs x) (by rw [size_bs]; omega) gr gx rs h wx hx hb)
    rw [us_bs] at HRD
    dsimp only
    go_enter Tryz.func21, Tryz.ntmps21
    go_upto_region 2 with (first | ((with_reducible refine holdLoad 24 rfl ?_); unfold Hold; refine wpList_loadB (vs := #[.string M, .string TG, .int .i64 X, .string RS, .slice mo H.length mc, .string B]) rfl rfl rfl Tryz.underlying24 (by kernel_rfl) hx (by kernel_rfl) ?_) | (go_at_call 50; refine (HAL.out _ HU.out).mono ?_; rintro e w1 ⟨va, rfl, hva, hC⟩; replace hx := hx.call hC; replace hr := hr.call hC; obtain ⟨vo, vc, rfl, _, _⟩ := hva.form))
    have x6 : w1.cell? ⟨gx, 6, none⟩ = some (.int .i64 0) := boxedCell hx 6
    have hxl2 := hx.lt
    obtain ⟨ao, cap, e9, _, c1⟩ := hva.form
    obtain ⟨b, off, rfl, _, hc0⟩ := c1 (by simp)
    injection e9 with e9
    subst e9
    have y0 : w1.cell? ⟨b, off, none⟩ = some (.string (bs x)) := hc0 0 (by simp)
    go_upto_region 1 with fail
    go_wp2_with (first | (go_at_call 24; refine (HRD.out _ rs h38 (HM.out.below hC) hr).mono ?_; rintro e w2 ⟨u2, rfl, hr2, hu2, hF2, hK⟩; replace hx := (hK.k.blk gx hx.lt (by omega) (by omega)).trans hx) | ((with_reducible refine holdStore 38 rfl ?_); unfold Hold; refine wpList_storeC (off := 6) (v := .int .i64 ((fun s => (evS s).2) x)) (cs' := #[.string M, .string TG, .int .i64 X, .string RS, .slice mo H.length mc, .string B, .int .i64 ((fun s => (evS s).2) x)]) rfl rfl rfl rfl (by kernel_rfl) hx (Nat.le_of_ble_eq_true (by kernel_rfl)) (by kernel_rfl) (by kernel_rfl) (by kernel_rfl) ?_; intro w8 b8 hf8 hs8 hl8))
    refine bodyPost_end (v := .tuple #[]) (by simp [results, Tryz.results21, go_sem]) rfl ?_
    have hgr : gx ≠ gr := by omega
    first | exact ⟨rfl, b8, ⟨_, (hf8 gr (by omega)).trans hr2, fun _ => RQF.kp (((hq.kp hg (KeptB.of_below hC)).kp hg hK.wide.k).evt_ (RP2.new hu2 hF2 hg hxl2)) hg (KeptB.store2 hf8 hs8)⟩, ((Kp.of_below hC hkg).trans hK.wide).trans (Kp.store2 hg hf8 hs8 hl8)⟩ | exact ⟨rfl, b8, ⟨_, (hf8 gr (by omega)).trans hr2, RQF.kp (((hq.kp hg (KeptB.of_below hC)).kp hg hK.wide.k).evt_ (RP2.new hu2 hF2 hg hxl2)) hg (KeptB.store2 hf8 hs8)⟩, ((Kp.of_below hC hkg).trans hK.wide).trans (Kp.store2 hg hf8 hs8 hl8)⟩ | exact ⟨rfl, b8, ⟨_, (hf8 gr (by omega)).trans hr2⟩, ((Kp.of_below hC hkg).trans hK.wide).trans (Kp.store2 hg hf8 hs8 hl8)⟩
  · dsimp only
    go_enter Tryz.func21, Tryz.ntmps21
    go_upto_region 2 with (first | ((with_reducible refine holdLoad 24 rfl ?_); unfold Hold; refine wpList_loadB (vs := #[.string M, .string TG, .int .i64 X, .string RS, .slice mo H.length mc, .string B]) rfl rfl rfl Tryz.underlying24 (by kernel_rfl) hx (by kernel_rfl) ?_) | (go_at_call 50; refine (HAL.out _ HU.out).mono ?_; rintro e w1 ⟨va, rfl, hva, hC⟩; replace hx := hx.call hC; replace hr := hr.call hC; obtain ⟨vo, vc, rfl, _, _⟩ := hva.form))
    have x6 : w1.cell? ⟨gx, 6, none⟩ = some (.int .i64 0) := boxedCell hx 6
    have hln : ((1 : Int) < (((x :: y :: l).length : Nat) : Int)) := by simp only [List.length_cons]; omega
    go_wp2_with ((with_reducible refine holdStore 38 rfl ?_); unfold Hold; refine wpList_storeC (off := 6) (v := .int .i64 4) (cs' := #[.string M, .string TG, .int .i64 X, .string RS, .slice mo H.length mc, .string B, .int .i64 4]) rfl rfl rfl rfl (by kernel_rfl) hx (Nat.le_of_ble_eq_true (by kernel_rfl)) (by kernel_rfl) (by kernel_rfl) (by kernel_rfl) ?_; intro w8 b8 hf8 hs8 hl8)
    refine bodyPost_end (v := .tuple #[]) (by simp [results, Tryz.results21, go_sem]) rfl ?_
    exact ⟨rfl, b8, ⟨rs, (hf8 gr (by omega)).trans hr, fun h => absurd h (by decide)⟩, (Kp.of_below hC hkg).trans (Kp.store2 hg hf8 hs8 hl8)⟩

set_option maxRecDepth 100000 in
set_option maxHeartbeats 6400000 in
theorem one3_c (M TG RS B : ByteArray) (X : Int) (u : Value) (H : List Hdr) (er : Int) (gr gx : Nat) (hg : gr < gx) (rs : Array Value) (r : Rqt) (w : World) (hm : Ml w) (hu : RHdrs w u H) (hb : ∀ h ∈ H, h.name.length ≤ 1048576 ∧ h.value.length ≤ 1048576) (hH : H.length ≤ 1048576)
    (hx : Blk w gx 58 #[.string M, .string TG, .int .i64 X, .string RS, u, .string B, .int .i64 er]) (hr : Blk w gr 37 rs) (h38 : er = 0 → rs.size = 38) (hq : er = 0 → RQF gr gx w (.agg rs) r) :
    Calls Tryz.prog 21 #[.pointer (some ⟨gx, 0, none⟩), .string ⟨#[67, 111, 110, 116, 97, 99, 116]⟩, .func (.func 26) #[] #[.pointer (some ⟨gr, 0, none⟩)]] w fun e w' => e = .returned (.tuple #[]) ∧ Blk w' gx 58 #[.string M, .string TG, .int .i64 X, .string RS, u, .string B, .int .i64 (one1 H nContact er (fun s => (listA s).2))] ∧ (∃ rs', Blk w' gr 37 rs' ∧ (one1 H nContact er (fun s => (listA s).2) = 0 → RQF gr gx w' (.agg rs') { r with contact := got H nContact r.contact (fun s => (listA s).1) })) ∧ Kp gr gx w w' := by
  have HM := Lib.hid hm
  have HU := Lib.hid hu
  obtain ⟨mo, mc, rfl, _, _⟩ := hu.form
  have HAL := Lib.hid (fun wx hx => all_c' M TG RS B X (.slice mo H.length mc) H ⟨#[67, 111, 110, 116, 97, 99, 116]⟩ (by decide) wx hx (fun h hh => by have := (hb h hh).1; omega) (by omega))
  rw [show us ⟨#[67, 111, 110, 116, 97, 99, 116]⟩ = nContact from rfl] at HAL
  have hVb : ∀ x ∈ allS H nContact, x.length ≤ 1048576 := fun x hx => by
    obtain ⟨q, hq, rfl⟩ := allS_mem H nContact x hx
    exact (hb q hq).2
  have hkg : gr ≤ w.heap.size := Nat.le_of_lt hr.lt
  unfold one1 got
  obtain ⟨VS, hVS⟩ : ∃ VS, VS = allS H nContact := ⟨_, rfl⟩
  rw [← hVS] at HAL hVb ⊢
  clear hVS hb hm hu hH
  by_cases he : er = 0
  rotate_left
  · have t1 : (er != 0) = true := by simpa using he
    rw [if_pos he]
    have HE := Lib.hid he
    clear he h38 hq
    go_enter Tryz.func21, Tryz.ntmps21
    go_upto_region 2 with (first | ((with_reducible refine holdLoad 24 rfl ?_); unfold Hold; refine wpList_loadB (vs := #[.string M, .string TG, .int .i64 X, .string RS, .slice mo H.length mc, .string B]) rfl rfl rfl Tryz.underlying24 (by kernel_rfl) hx (by kernel_rfl) ?_) | (go_at_call 50; refine (HAL.out _ HU.out).mono ?_; rintro e w1 ⟨va, rfl, hva, hC⟩; replace hx := hx.call hC; replace hr := hr.call hC; obtain ⟨vo, vc, rfl, _, _⟩ := hva.form))
    have x6 : w1.cell? ⟨gx, 6, none⟩ = some (.int .i64 er) := boxedCell hx 6
    go_wp2
    all_goals (refine bodyPost_end (v := .tuple #[]) (by simp [results, Tryz.results21, go_sem]) rfl ?_)
    all_goals exact ⟨rfl, hx, ⟨rs, hr, fun h => absurd h HE.out⟩, Kp.of_below hC hkg⟩
  subst he
  rw [if_neg (fun h => h rfl)]
  replace h38 := h38 rfl
  replace hq := hq rfl
  rcases VS with _ | ⟨x, _ | ⟨y, l⟩⟩
  · dsimp only
    go_enter Tryz.func21, Tryz.ntmps21
    go_upto_region 2 with (first | ((with_reducible refine holdLoad 24 rfl ?_); unfold Hold; refine wpList_loadB (vs := #[.string M, .string TG, .int .i64 X, .string RS, .slice mo H.length mc, .string B]) rfl rfl rfl Tryz.underlying24 (by kernel_rfl) hx (by kernel_rfl) ?_) | (go_at_call 50; refine (HAL.out _ HU.out).mono ?_; rintro e w1 ⟨va, rfl, hva, hC⟩; replace hx := hx.call hC; replace hr := hr.call hC; obtain ⟨vo, vc, rfl, _, _⟩ := hva.form))
    have x6 : w1.cell? ⟨gx, 6, none⟩ = some (.int .i64 0) := boxedCell hx 6
    go_wp2
    all_goals (refine bodyPost_end (v := .tuple #[]) (by simp [results, Tryz.results21, go_sem]) rfl ?_)
    all_goals exact ⟨rfl, hx, ⟨rs, hr, fun _ => hq.kp hg (KeptB.of_below hC)⟩, Kp.of_below hC hkg⟩
  · have hxl : x.length ≤ 1048576 := hVb x (List.mem_singleton.2 rfl)
    have HRD := Lib.hid (fun (wx : World) rs h hx hb => rd3_c (bs x) (by rw [size_bs]; omega) gr gx rs h wx hx hb)
    rw [us_bs] at HRD
    dsimp only
    go_enter Tryz.func21, Tryz.ntmps21
    go_upto_region 2 with (first | ((with_reducible refine holdLoad 24 rfl ?_); unfold Hold; refine wpList_loadB (vs := #[.string M, .string TG, .int .i64 X, .string RS, .slice mo H.length mc, .string B]) rfl rfl rfl Tryz.underlying24 (by kernel_rfl) hx (by kernel_rfl) ?_) | (go_at_call 50; refine (HAL.out _ HU.out).mono ?_; rintro e w1 ⟨va, rfl, hva, hC⟩; replace hx := hx.call hC; replace hr := hr.call hC; obtain ⟨vo, vc, rfl, _, _⟩ := hva.form))
    have x6 : w1.cell? ⟨gx, 6, none⟩ = some (.int .i64 0) := boxedCell hx 6
    have hxl2 := hx.lt
    obtain ⟨ao, cap, e9, _, c1⟩ := hva.form
    obtain ⟨b, off, rfl, _, hc0⟩ := c1 (by simp)
    injection e9 with e9
    subst e9
    have y0 : w1.cell? ⟨b, off, none⟩ = some (.string (bs x)) := hc0 0 (by simp)
    go_upto_region 1 with fail
    go_wp2_with (first | (go_at_call 26; refine (HRD.out _ rs h38 (HM.out.below hC) hr).mono ?_; rintro e w2 ⟨u2, rfl, hr2, hu2, hK⟩; replace hx := (hK.k.blk gx hx.lt (by omega) (by omega)).trans hx) | ((with_reducible refine holdStore 38 rfl ?_); unfold Hold; refine wpList_storeC (off := 6) (v := .int .i64 ((fun s => (listA s).2) x)) (cs' := #[.string M, .string TG, .int .i64 X, .string RS, .slice mo H.length mc, .string B, .int .i64 ((fun s => (listA s).2) x)]) rfl rfl rfl rfl (by kernel_rfl) hx (Nat.le_of_ble_eq_true (by kernel_rfl)) (by kernel_rfl) (by kernel_rfl) (by kernel_rfl) ?_; intro w8 b8 hf8 hs8 hl8))
    refine bodyPost_end (v := .tuple #[]) (by simp [results, Tryz.results21, go_sem]) rfl ?_
    have hgr : gx ≠ gr := by omega
    first | exact ⟨rfl, b8, ⟨_, (hf8 gr (by omega)).trans hr2, fun _ => RQF.kp (((hq.kp hg (KeptB.of_below hC)).kp hg hK.wide.k).contact_ (hu2 hg hxl2)) hg (KeptB.store2 hf8 hs8)⟩, ((Kp.of_below hC hkg).trans hK.wide).trans (Kp.store2 hg hf8 hs8 hl8)⟩ | exact ⟨rfl, b8, ⟨_, (hf8 gr (by omega)).trans hr2, RQF.kp (((hq.kp hg (KeptB.of_below hC)).kp hg hK.wide.k).contact_ (hu2 hg hxl2)) hg (KeptB.store2 hf8 hs8)⟩, ((Kp.of_below hC hkg).trans hK.wide).trans (Kp.store2 hg hf8 hs8 hl8)⟩ | exact ⟨rfl, b8, ⟨_, (hf8 gr (by omega)).trans hr2⟩, ((Kp.of_below hC hkg).trans hK.wide).trans (Kp.store2 hg hf8 hs8 hl8)⟩
  · dsimp only
    go_enter Tryz.func21, Tryz.ntmps21
    go_upto_region 2 with (first | ((with_reducible refine holdLoad 24 rfl ?_); unfold Hold; refine wpList_loadB (vs := #[.string M, .string TG, .int .i64 X, .string RS, .slice mo H.length mc, .string B]) rfl rfl rfl Tryz.underlying24 (by kernel_rfl) hx (by kernel_rfl) ?_) | (go_at_call 50; refine (HAL.out _ HU.out).mono ?_; rintro e w1 ⟨va, rfl, hva, hC⟩; replace hx := hx.call hC; replace hr := hr.call hC; obtain ⟨vo, vc, rfl, _, _⟩ := hva.form))
    have x6 : w1.cell? ⟨gx, 6, none⟩ = some (.int .i64 0) := boxedCell hx 6
    have hln : ((1 : Int) < (((x :: y :: l).length : Nat) : Int)) := by simp only [List.length_cons]; omega
    go_wp2_with ((with_reducible refine holdStore 38 rfl ?_); unfold Hold; refine wpList_storeC (off := 6) (v := .int .i64 4) (cs' := #[.string M, .string TG, .int .i64 X, .string RS, .slice mo H.length mc, .string B, .int .i64 4]) rfl rfl rfl rfl (by kernel_rfl) hx (Nat.le_of_ble_eq_true (by kernel_rfl)) (by kernel_rfl) (by kernel_rfl) (by kernel_rfl) ?_; intro w8 b8 hf8 hs8 hl8)
    refine bodyPost_end (v := .tuple #[]) (by simp [results, Tryz.results21, go_sem]) rfl ?_
    exact ⟨rfl, b8, ⟨rs, (hf8 gr (by omega)).trans hr, fun h => absurd h (by decide)⟩, (Kp.of_below hC hkg).trans (Kp.store2 hg hf8 hs8 hl8)⟩

set_option maxRecDepth 100000 in
set_option maxHeartbeats 6400000 in
theorem one4_c (M TG RS B : ByteArray) (X : Int) (u : Value) (H : List Hdr) (er : Int) (gr gx : Nat) (hg : gr < gx) (rs : Array Value) (r : Rqt) (w : World) (hm : Ml w) (hu : RHdrs w u H) (hb : ∀ h ∈ H, h.name.length ≤ 1048576 ∧ h.value.length ≤ 1048576) (hH : H.length ≤ 1048576)
    (hx : Blk w gx 58 #[.string M, .string TG, .int .i64 X, .string RS, u, .string B, .int .i64 er]) (hr : Blk w gr 37 rs) (h38 : er = 0 → rs.size = 38) (hq : er = 0 → RQF gr gx w (.agg rs) r) :
    Calls Tryz.prog 21 #[.pointer (some ⟨gx, 0, none⟩), .string ⟨#[67, 111, 110, 116, 101, 110, 116, 45, 84, 121, 112, 101]⟩, .func (.func 28) #[] #[.pointer (some ⟨gr, 0, none⟩)]] w fun e w' => e = .returned (.tuple #[]) ∧ Blk w' gx 58 #[.string M, .string TG, .int .i64 X, .string RS, u, .string B, .int .i64 (one1 H nType er (fun _ => 0))] ∧ (∃ rs', Blk w' gr 37 rs' ∧ (one1 H nType er (fun _ => 0) = 0 → RQF gr gx w' (.agg rs') { r with typ := got H nType r.typ typeOf })) ∧ Kp gr gx w w' := by
  have HM := Lib.hid hm
  have HU := Lib.hid hu
  obtain ⟨mo, mc, rfl, _, _⟩ := hu.form
  have HAL := Lib.hid (fun wx hx => all_c' M TG RS B X (.slice mo H.length mc) H ⟨#[67, 111, 110, 116, 101, 110, 116, 45, 84, 121, 112, 101]⟩ (by decide) wx hx (fun h hh => by have := (hb h hh).1; omega) (by omega))
  rw [show us ⟨#[67, 111, 110, 116, 101, 110, 116, 45, 84, 121, 112, 101]⟩ = nType from rfl] at HAL
  have hVb : ∀ x ∈ allS H nType, x.length ≤ 1048576 := fun x hx => by
    obtain ⟨q, hq, rfl⟩ := allS_mem H nType x hx
    exact (hb q hq).2
  have hkg : gr ≤ w.heap.size := Nat.le_of_lt hr.lt
  unfold one1 got
  obtain ⟨VS, hVS⟩ : ∃ VS, VS = allS H nType := ⟨_, rfl⟩
  rw [← hVS] at HAL hVb ⊢
  clear hVS hb hm hu hH
  by_cases he : er = 0
  rotate_left
  · have t1 : (er != 0) = true := by simpa using he
    rw [if_pos he]
    have HE := Lib.hid he
    clear he h38 hq
    go_enter Tryz.func21, Tryz.ntmps21
    go_upto_region 2 with (first | ((with_reducible refine holdLoad 24 rfl ?_); unfold Hold; refine wpList_loadB (vs := #[.string M, .string TG, .int .i64 X, .string RS, .slice mo H.length mc, .string B]) rfl rfl rfl Tryz.underlying24 (by kernel_rfl) hx (by kernel_rfl) ?_) | (go_at_call 50; refine (HAL.out _ HU.out).mono ?_; rintro e w1 ⟨va, rfl, hva, hC⟩; replace hx := hx.call hC; replace hr := hr.call hC; obtain ⟨vo, vc, rfl, _, _⟩ := hva.form))
    have x6 : w1.cell? ⟨gx, 6, none⟩ = some (.int .i64 er) := boxedCell hx 6
    go_wp2
    all_goals (refine bodyPost_end (v := .tuple #[]) (by simp [results, Tryz.results21, go_sem]) rfl ?_)
    all_goals exact ⟨rfl, hx, ⟨rs, hr, fun h => absurd h HE.out⟩, Kp.of_below hC hkg⟩
  subst he
  rw [if_neg (fun h => h rfl)]
  replace h38 := h38 rfl
  replace hq := hq rfl
  rcases VS with _ | ⟨x, _ | ⟨y, l⟩⟩
  · dsimp only
    go_enter Tryz.func21, Tryz.ntmps21
    go_upto_region 2 with (first | ((with_reducible refine holdLoad 24 rfl ?_); unfold Hold; refine wpList_loadB (vs := #[.string M, .string TG, .int .i64 X, .string RS, .slice mo H.length mc, .string B]) rfl rfl rfl Tryz.underlying24 (by kernel_rfl) hx (by kernel_rfl) ?_) | (go_at_call 50; refine (HAL.out _ HU.out).mono ?_; rintro e w1 ⟨va, rfl, hva, hC⟩; replace hx := hx.call hC; replace hr := hr.call hC; obtain ⟨vo, vc, rfl, _, _⟩ := hva.form))
    have x6 : w1.cell? ⟨gx, 6, none⟩ = some (.int .i64 0) := boxedCell hx 6
    go_wp2
    all_goals (refine bodyPost_end (v := .tuple #[]) (by simp [results, Tryz.results21, go_sem]) rfl ?_)
    all_goals exact ⟨rfl, hx, ⟨rs, hr, fun _ => hq.kp hg (KeptB.of_below hC)⟩, Kp.of_below hC hkg⟩
  · have hxl : x.length ≤ 1048576 := hVb x (List.mem_singleton.2 rfl)
    have HRD := Lib.hid (fun (wx : World) rs h hx hb => rd4_c (bs x) (by rw [size_bs]; omega) gr gx rs h wx hx hb)
    rw [us_bs] at HRD
    dsimp only
    go_enter Tryz.func21, Tryz.ntmps21
    go_upto_region 2 with (first | ((with_reducible refine holdLoad 24 rfl ?_); unfold Hold; refine wpList_loadB (vs := #[.string M, .string TG, .int .i64 X, .string RS, .slice mo H.length mc, .string B]) rfl rfl rfl Tryz.underlying24 (by kernel_rfl) hx (by kernel_rfl) ?_) | (go_at_call 50; refine (HAL.out _ HU.out).mono ?_; rintro e w1 ⟨va, rfl, hva, hC⟩; replace hx := hx.call hC; replace hr := hr.call hC; obtain ⟨vo, vc, rfl, _, _⟩ := hva.form))
    have x6 : w1.cell? ⟨gx, 6, none⟩ = some (.int .i64 0) := boxedCell hx 6
    have hxl2 := hx.lt
    obtain ⟨ao, cap, e9, _, c1⟩ := hva.form
    obtain ⟨b, off, rfl, _, hc0⟩ := c1 (by simp)
    injection e9 with e9
    subst e9
    have y0 : w1.cell? ⟨b, off, none⟩ = some (.string (bs x)) := hc0 0 (by simp)
    go_upto_region 1 with fail
    go_wp2_with (first | (go_at_call 28; refine (HRD.out _ rs h38 (HM.out.below hC) hr).mono ?_; rintro e w2 ⟨rfl, hr2, hK⟩; replace hx := (hK.k.blk gx hx.lt (by omega) (by omega)).trans hx) | ((with_reducible refine holdStore 38 rfl ?_); unfold Hold; refine wpList_storeC (off := 6) (v := .int .i64 ((fun _ => 0) x)) (cs' := #[.string M, .string TG, .int .i64 X, .string RS, .slice mo H.length mc, .string B, .int .i64 ((fun _ => 0) x)]) rfl rfl rfl rfl (by kernel_rfl) hx (Nat.le_of_ble_eq_true (by kernel_rfl)) (by kernel_rfl) (by kernel_rfl) (by kernel_rfl) ?_; intro w8 b8 hf8 hs8 hl8))
    refine bodyPost_end (v := .tuple #[]) (by simp [results, Tryz.results21, go_sem]) rfl ?_
    have hgr : gx ≠ gr := by omega
    first | exact ⟨rfl, b8, ⟨_, (hf8 gr (by omega)).trans hr2, fun _ => RQF.kp (((hq.kp hg (KeptB.of_below hC)).kp hg hK.wide.k).typ_) hg (KeptB.store2 hf8 hs8)⟩, ((Kp.of_below hC hkg).trans hK.wide).trans (Kp.store2 hg hf8 hs8 hl8)⟩ | exact ⟨rfl, b8, ⟨_, (hf8 gr (by omega)).trans hr2, RQF.kp (((hq.kp hg (KeptB.of_below hC)).kp hg hK.wide.k).typ_) hg (KeptB.store2 hf8 hs8)⟩, ((Kp.of_below hC hkg).trans hK.wide).trans (Kp.store2 hg hf8 hs8 hl8)⟩ | exact ⟨rfl, b8, ⟨_, (hf8 gr (by omega)).trans hr2⟩, ((Kp.of_below hC hkg).trans hK.wide).trans (Kp.store2 hg hf8 hs8 hl8)⟩
  · dsimp only
    go_enter Tryz.func21, Tryz.ntmps21
    go_upto_region 2 with (first | ((with_reducible refine holdLoad 24 rfl ?_); unfold Hold; refine wpList_loadB (vs := #[.string M, .string TG, .int .i64 X, .string RS, .slice mo H.length mc, .string B]) rfl rfl rfl Tryz.underlying24 (by kernel_rfl) hx (by kernel_rfl) ?_) | (go_at_call 50; refine (HAL.out _ HU.out).mono ?_; rintro e w1 ⟨va, rfl, hva, hC⟩; replace hx := hx.call hC; replace hr := hr.call hC; obtain ⟨vo, vc, rfl, _, _⟩ := hva.form))
    have x6 : w1.cell? ⟨gx, 6, none⟩ = some (.int .i64 0) := boxedCell hx 6
    have hln : ((1 : Int) < (((x :: y :: l).length : Nat) : Int)) := by simp only [List.length_cons]; omega
    go_wp2_with ((with_reducible refine holdStore 38 rfl ?_); unfold Hold; refine wpList_storeC (off := 6) (v := .int .i64 4) (cs' := #[.string M, .string TG, .int .i64 X, .string RS, .slice mo H.length mc, .string B, .int .i64 4]) rfl rfl rfl rfl (by kernel_rfl) hx (Nat.le_of_ble_eq_true (by kernel_rfl)) (by kernel_rfl) (by kernel_rfl) (by kernel_rfl) ?_; intro w8 b8 hf8 hs8 hl8)
    refine bodyPost_end (v := .tuple #[]) (by simp [results, Tryz.results21, go_sem]) rfl ?_
    exact ⟨rfl, b8, ⟨rs, (hf8 gr (by omega)).trans hr, fun h => absurd h (by decide)⟩, (Kp.of_below hC hkg).trans (Kp.store2 hg hf8 hs8 hl8)⟩

set_option maxRecDepth 100000 in
set_option maxHeartbeats 6400000 in
theorem one5_c (M TG RS B : ByteArray) (X : Int) (u : Value) (H : List Hdr) (er : Int) (gr gx : Nat) (hg : gr < gx) (rs : Array Value) (r : Rqt) (w : World) (hm : Ml w) (hu : RHdrs w u H) (hb : ∀ h ∈ H, h.name.length ≤ 1048576 ∧ h.value.length ≤ 1048576) (hH : H.length ≤ 1048576)
    (hx : Blk w gx 58 #[.string M, .string TG, .int .i64 X, .string RS, u, .string B, .int .i64 er]) (hr : Blk w gr 37 rs) (h38 : er = 0 → rs.size = 38) (hq : er = 0 → RQF gr gx w (.agg rs) r) :
    Calls Tryz.prog 21 #[.pointer (some ⟨gx, 0, none⟩), .string ⟨#[83, 73, 80, 45, 73, 102, 45, 77, 97, 116, 99, 104]⟩, .func (.func 30) #[] #[.pointer (some ⟨gr, 0, none⟩)]] w fun e w' => e = .returned (.tuple #[]) ∧ Blk w' gx 58 #[.string M, .string TG, .int .i64 X, .string RS, u, .string B, .int .i64 (one1 H nMatch er (fun s => if token s = true then 0 else 160))] ∧ (∃ rs', Blk w' gr 37 rs' ∧ (one1 H nMatch er (fun s => if token s = true then 0 else 160) = 0 → RQF gr gx w' (.agg rs') { r with mat := got H nMatch r.mat id })) ∧ Kp gr gx w w' := by
  have HM := Lib.hid hm
  have HU := Lib.hid hu
  obtain ⟨mo, mc, rfl, _, _⟩ := hu.form
  have HAL := Lib.hid (fun wx hx => all_c' M TG RS B X (.slice mo H.length mc) H ⟨#[83, 73, 80, 45, 73, 102, 45, 77, 97, 116, 99, 104]⟩ (by decide) wx hx (fun h hh => by have := (hb h hh).1; omega) (by omega))
  rw [show us ⟨#[83, 73, 80, 45, 73, 102, 45, 77, 97, 116, 99, 104]⟩ = nMatch from rfl] at HAL
  have hVb : ∀ x ∈ allS H nMatch, x.length ≤ 1048576 := fun x hx => by
    obtain ⟨q, hq, rfl⟩ := allS_mem H nMatch x hx
    exact (hb q hq).2
  have hkg : gr ≤ w.heap.size := Nat.le_of_lt hr.lt
  unfold one1 got
  obtain ⟨VS, hVS⟩ : ∃ VS, VS = allS H nMatch := ⟨_, rfl⟩
  rw [← hVS] at HAL hVb ⊢
  clear hVS hb hm hu hH
  by_cases he : er = 0
  rotate_left
  · have t1 : (er != 0) = true := by simpa using he
    rw [if_pos he]
    have HE := Lib.hid he
    clear he h38 hq
    go_enter Tryz.func21, Tryz.ntmps21
    go_upto_region 2 with (first | ((with_reducible refine holdLoad 24 rfl ?_); unfold Hold; refine wpList_loadB (vs := #[.string M, .string TG, .int .i64 X, .string RS, .slice mo H.length mc, .string B]) rfl rfl rfl Tryz.underlying24 (by kernel_rfl) hx (by kernel_rfl) ?_) | (go_at_call 50; refine (HAL.out _ HU.out).mono ?_; rintro e w1 ⟨va, rfl, hva, hC⟩; replace hx := hx.call hC; replace hr := hr.call hC; obtain ⟨vo, vc, rfl, _, _⟩ := hva.form))
    have x6 : w1.cell? ⟨gx, 6, none⟩ = some (.int .i64 er) := boxedCell hx 6
    go_wp2
    all_goals (refine bodyPost_end (v := .tuple #[]) (by simp [results, Tryz.results21, go_sem]) rfl ?_)
    all_goals exact ⟨rfl, hx, ⟨rs, hr, fun h => absurd h HE.out⟩, Kp.of_below hC hkg⟩
  subst he
  rw [if_neg (fun h => h rfl)]
  replace h38 := h38 rfl
  replace hq := hq rfl
  rcases VS with _ | ⟨x, _ | ⟨y, l⟩⟩
  · dsimp only
    go_enter Tryz.func21, Tryz.ntmps21
    go_upto_region 2 with (first | ((with_reducible refine holdLoad 24 rfl ?_); unfold Hold; refine wpList_loadB (vs := #[.string M, .string TG, .int .i64 X, .string RS, .slice mo H.length mc, .string B]) rfl rfl rfl Tryz.underlying24 (by kernel_rfl) hx (by kernel_rfl) ?_) | (go_at_call 50; refine (HAL.out _ HU.out).mono ?_; rintro e w1 ⟨va, rfl, hva, hC⟩; replace hx := hx.call hC; replace hr := hr.call hC; obtain ⟨vo, vc, rfl, _, _⟩ := hva.form))
    have x6 : w1.cell? ⟨gx, 6, none⟩ = some (.int .i64 0) := boxedCell hx 6
    go_wp2
    all_goals (refine bodyPost_end (v := .tuple #[]) (by simp [results, Tryz.results21, go_sem]) rfl ?_)
    all_goals exact ⟨rfl, hx, ⟨rs, hr, fun _ => hq.kp hg (KeptB.of_below hC)⟩, Kp.of_below hC hkg⟩
  · have hxl : x.length ≤ 1048576 := hVb x (List.mem_singleton.2 rfl)
    have HRD := Lib.hid (fun (wx : World) rs h hx hb => rd5_c (bs x) (by rw [size_bs]; omega) gr gx rs h wx hx hb)
    rw [us_bs] at HRD
    dsimp only
    obtain ⟨tb, htb⟩ : ∃ b, b = token x := ⟨_, rfl⟩
    rw [← htb] at HRD ⊢
    clear htb
    cases tb with
    | true =>
      simp only [if_true, Bool.false_eq_true, if_false] at HRD ⊢
      go_enter Tryz.func21, Tryz.ntmps21
      go_upto_region 2 with (first | ((with_reducible refine holdLoad 24 rfl ?_); unfold Hold; refine wpList_loadB (vs := #[.string M, .string TG, .int .i64 X, .string RS, .slice mo H.length mc, .string B]) rfl rfl rfl Tryz.underlying24 (by kernel_rfl) hx (by kernel_rfl) ?_) | (go_at_call 50; refine (HAL.out _ HU.out).mono ?_; rintro e w1 ⟨va, rfl, hva, hC⟩; replace hx := hx.call hC; replace hr := hr.call hC; obtain ⟨vo, vc, rfl, _, _⟩ := hva.form))
      have x6 : w1.cell? ⟨gx, 6, none⟩ = some (.int .i64 0) := boxedCell hx 6
      have hxl2 := hx.lt
      obtain ⟨ao, cap, e9, _, c1⟩ := hva.form
      obtain ⟨b, off, rfl, _, hc0⟩ := c1 (by simp)
      injection e9 with e9
      subst e9
      have y0 : w1.cell? ⟨b, off, none⟩ = some (.string (bs x)) := hc0 0 (by simp)
      go_upto_region 1 with fail
      go_wp2_with (first | (go_at_call 30; refine (HRD.out _ rs h38 (HM.out.below hC) hr).mono ?_; rintro e w2 ⟨rfl, hr2, hK⟩; replace hx := (hK.k.blk gx hx.lt (by omega) (by omega)).trans hx) | ((with_reducible refine holdStore 38 rfl ?_); unfold Hold; refine wpList_storeC (off := 6) (v := .int .i64 0) (cs' := #[.string M, .string TG, .int .i64 X, .string RS, .slice mo H.length mc, .string B, .int .i64 0]) rfl rfl rfl rfl (by kernel_rfl) hx (Nat.le_of_ble_eq_true (by kernel_rfl)) (by kernel_rfl) (by kernel_rfl) (by kernel_rfl) ?_; intro w8 b8 hf8 hs8 hl8))
      refine bodyPost_end (v := .tuple #[]) (by simp [results, Tryz.results21, go_sem]) rfl ?_
      have hgr : gx ≠ gr := by omega
      first | exact ⟨rfl, b8, ⟨_, (hf8 gr (by omega)).trans hr2, fun _ => RQF.kp (((hq.kp hg (KeptB.of_below hC)).kp hg hK.wide.k).mat_) hg (KeptB.store2 hf8 hs8)⟩, ((Kp.of_below hC hkg).trans hK.wide).trans (Kp.store2 hg hf8 hs8 hl8)⟩ | exact ⟨rfl, b8, ⟨_, (hf8 gr (by omega)).trans hr2, RQF.kp (((hq.kp hg (KeptB.of_below hC)).kp hg hK.wide.k).mat_) hg (KeptB.store2 hf8 hs8)⟩, ((Kp.of_below hC hkg).trans hK.wide).trans (Kp.store2 hg hf8 hs8 hl8)⟩ | exact ⟨rfl, b8, ⟨_, (hf8 gr (by omega)).trans hr2⟩, ((Kp.of_below hC hkg).trans hK.wide).trans (Kp.store2 hg hf8 hs8 hl8)⟩
    | false =>
      simp only [if_true, Bool.false_eq_true, if_false] at HRD ⊢
      go_enter Tryz.func21, Tryz.ntmps21
      go_upto_region 2 with (first | ((with_reducible refine holdLoad 24 rfl ?_); unfold Hold; refine wpList_loadB (vs := #[.string M, .string TG, .int .i64 X, .string RS, .slice mo H.length mc, .string B]) rfl rfl rfl Tryz.underlying24 (by kernel_rfl) hx (by kernel_rfl) ?_) | (go_at_call 50; refine (HAL.out _ HU.out).mono ?_; rintro e w1 ⟨va, rfl, hva, hC⟩; replace hx := hx.call hC; replace hr := hr.call hC; obtain ⟨vo, vc, rfl, _, _⟩ := hva.form))
      have x6 : w1.cell? ⟨gx, 6, none⟩ = some (.int .i64 0) := boxedCell hx 6
      have hxl2 := hx.lt
      obtain ⟨ao, cap, e9, _, c1⟩ := hva.form
      obtain ⟨b, off, rfl, _, hc0⟩ := c1 (by simp)
      injection e9 with e9
      subst e9
      have y0 : w1.cell? ⟨b, off, none⟩ = some (.string (bs x)) := hc0 0 (by simp)
      go_upto_region 1 with fail
      go_wp2_with (first | (go_at_call 30; refine (HRD.out _ rs h38 (HM.out.below hC) hr).mono ?_; rintro e w2 ⟨rfl, hr2, hK⟩; replace hx := (hK.k.blk gx hx.lt (by omega) (by omega)).trans hx) | ((with_reducible refine holdStore 38 rfl ?_); unfold Hold; refine wpList_storeC (off := 6) (v := .int .i64 160) (cs' := #[.string M, .string TG, .int .i64 X, .string RS, .slice mo H.length mc, .string B, .int .i64 160]) rfl rfl rfl rfl (by kernel_rfl) hx (Nat.le_of_ble_eq_true (by kernel_rfl)) (by kernel_rfl) (by kernel_rfl) (by kernel_rfl) ?_; intro w8 b8 hf8 hs8 hl8))
      refine bodyPost_end (v := .tuple #[]) (by simp [results, Tryz.results21, go_sem]) rfl ?_
      have hgr : gx ≠ gr := by omega
      first | exact ⟨rfl, b8, ⟨_, (hf8 gr (by omega)).trans hr2, fun _ => RQF.kp (((hq.kp hg (KeptB.of_below hC)).kp hg hK.wide.k).mat_) hg (KeptB.store2 hf8 hs8)⟩, ((Kp.of_below hC hkg).trans hK.wide).trans (Kp.store2 hg hf8 hs8 hl8)⟩ | exact ⟨rfl, b8, ⟨_, (hf8 gr (by omega)).trans hr2, RQF.kp (((hq.kp hg (KeptB.of_below hC)).kp hg hK.wide.k).mat_) hg (KeptB.store2 hf8 hs8)⟩, ((Kp.of_below hC hkg).trans hK.wide).trans (Kp.store2 hg hf8 hs8 hl8)⟩ | exact ⟨rfl, b8, ⟨_, (hf8 gr (by omega)).trans hr2⟩, ((Kp.of_below hC hkg).trans hK.wide).trans (Kp.store2 hg hf8 hs8 hl8)⟩
  · dsimp only
    go_enter Tryz.func21, Tryz.ntmps21
    go_upto_region 2 with (first | ((with_reducible refine holdLoad 24 rfl ?_); unfold Hold; refine wpList_loadB (vs := #[.string M, .string TG, .int .i64 X, .string RS, .slice mo H.length mc, .string B]) rfl rfl rfl Tryz.underlying24 (by kernel_rfl) hx (by kernel_rfl) ?_) | (go_at_call 50; refine (HAL.out _ HU.out).mono ?_; rintro e w1 ⟨va, rfl, hva, hC⟩; replace hx := hx.call hC; replace hr := hr.call hC; obtain ⟨vo, vc, rfl, _, _⟩ := hva.form))
    have x6 : w1.cell? ⟨gx, 6, none⟩ = some (.int .i64 0) := boxedCell hx 6
    have hln : ((1 : Int) < (((x :: y :: l).length : Nat) : Int)) := by simp only [List.length_cons]; omega
    go_wp2_with ((with_reducible refine holdStore 38 rfl ?_); unfold Hold; refine wpList_storeC (off := 6) (v := .int .i64 4) (cs' := #[.string M, .string TG, .int .i64 X, .string RS, .slice mo H.length mc, .string B, .int .i64 4]) rfl rfl rfl rfl (by kernel_rfl) hx (Nat.le_of_ble_eq_true (by kernel_rfl)) (by kernel_rfl) (by kernel_rfl) (by kernel_rfl) ?_; intro w8 b8 hf8 hs8 hl8)
    refine bodyPost_end (v := .tuple #[]) (by simp [results, Tryz.results21, go_sem]) rfl ?_
    exact ⟨rfl, b8, ⟨rs, (hf8 gr (by omega)).trans hr, fun h => absurd h (by decide)⟩, (Kp.of_below hC hkg).trans (Kp.store2 hg hf8 hs8 hl8)⟩

end Go.Proofs.YtgkilllbkljibaaGreatDoor
