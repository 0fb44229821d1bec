import Derived.Test.YtgkilllbkljibaaGreatDoorRkp
import Derived.Test.YtgkilllbkljibaaGreatDoorR16
set_option linter.unusedSimpArgs false
set_option linter.unusedVariables false
namespace Go.Proofs.YtgkilllbkljibaaGreatDoor
open Go.RowKit Go.Sort
theorem one1_nil {H : List Hdr} {n : List UInt8} {e : Int} {f : List UInt8 → Int} (h : allS H n = []) : one1 H n e f = e := by unfold one1; rw [h]; split <;> simp_all
theorem got_nil {α : Type} {H : List Hdr} {n : List UInt8} {d : α} {f : List UInt8 → α} (h : allS H n = []) : got H n d f = d := by unfold got; rw [h]
set_option maxRecDepth 100000 in
set_option maxHeartbeats 6400000 in
theorem one0_c (NB : ByteArray) (hN : NB.size ≤ 1048576) (fv : Value) (M TG RS B : ByteArray) (X : Int) (u : Value) (H : List Hdr) (er : Int) (gr gx : Nat) (hg : gr < gx) (rs : Array Value) (r : Rqt) (w : World) (hm : Ml w) (hu : RHdrs w u H) (hb : ∀ h ∈ H, h.name.length ≤ 1048576 ∧ h.value.length ≤ 1048576) (hH : H.length ≤ 1048576) (h0 : allS H (us NB) = [])
  (hx : Blk w gx 58 #[.string M, .string TG, .int .i64 X, .string RS, u, .string B, .int .i64 er]) (hr : Blk w gr 37 rs) (hq : er = 0 → RQF gr gx w (.agg rs) r) :
  Calls Tryz.prog 21 #[.pointer (some ⟨gx, 0, none⟩), .string NB, fv] w fun e w' => e = .returned (.tuple #[]) ∧ Blk w' gx 58 #[.string M, .string TG, .int .i64 X, .string RS, u, .string B, .int .i64 er] ∧ (∃ rs', Blk w' gr 37 rs' ∧ (er = 0 → RQF gr gx w' (.agg rs') r)) ∧ Kp gr gx w w' := by
 have HM := Lib.hid hm
 have HU := Lib.hid hu
 obtain ⟨mo, mc, rfl, _, _⟩ := hu.form
 have HAL := Lib.hid (fun wx hx => all_c' M TG RS B X (.slice mo H.length mc) H NB (by omega) wx hx (fun h hh => by have := (hb h hh).1; omega) (by omega))
 rw [h0] at HAL
 have hkg : gr ≤ w.heap.size := Nat.le_of_lt hr.lt
 have HQ := Lib.hid (fun (wx : World) (h : Below w.heap.size w wx) (he : er = 0) => (hq he).kp hg (KeptB.of_below h))
 clear hq h0 hb hm hu hH hN
 obtain ⟨y, hy⟩ : ∃ y, (er != 0) = y := ⟨_, rfl⟩
 have HY := Lib.hid hy
 cases y
 all_goals (
  go_enter Tryz.func21, Tryz.ntmps21
  go_upto_region 2 with (first | ((with_reducible refine holdLoad 24 rfl ?_); unfold Hold; refine wpList_loadB (vs := #[.string M, .string TG, .int .i64 X, .string RS, .slice mo H.length mc, .string B]) rfl rfl rfl Tryz.underlying24 (by kernel_rfl) hx (by kernel_rfl) ?_) | (go_at_call 50; refine (HAL.out _ HU.out).mono ?_; rintro e w1 ⟨va, rfl, hva, hC⟩; replace hx := hx.call hC; replace hr := hr.call hC; obtain ⟨vo, vc, rfl, _, _⟩ := hva.form))
  have x6 : w1.cell? ⟨gx, 6, none⟩ = some (.int .i64 er) := boxedCell hx 6
  go_wp2
  all_goals (refine bodyPost_end (v := .tuple #[]) (by simp [results, Tryz.results21, go_sem]) rfl ?_)
  all_goals exact ⟨rfl, hx, ⟨rs, hr, fun h => HQ.out _ hC h⟩, Kp.of_below hC hkg⟩)
theorem onek1_c (M TG RS B : ByteArray) (X : Int) (u : Value) (H : List Hdr) (er : Int) (gr gx : Nat) (hg : gr < gx) (rs : Array Value) (r : Rqt) (w : World) (hm : Ml w) (hu : RHdrs w u H) (hb : ∀ h ∈ H, h.name.length ≤ 1048576 ∧ h.value.length ≤ 1048576) (hH : H.length ≤ 1048576) (h0 : allS H nExp = [])
  (hx : Blk w gx 58 #[.string M, .string TG, .int .i64 X, .string RS, u, .string B, .int .i64 er]) (hr : Blk w gr 37 rs) (h38 : er = 0 → rs.size = 38) (hq : er = 0 → RQF gr gx w (.agg rs) r) :
  Calls Tryz.prog 21 #[.pointer (some ⟨gx, 0, none⟩), .string ⟨#[69, 120, 112, 105, 114, 101, 115]⟩, .func (.func 22) #[] #[.pointer (some ⟨gr, 0, none⟩)]] w fun e w' => e = .returned (.tuple #[]) ∧ Blk w' gx 58 #[.string M, .string TG, .int .i64 X, .string RS, u, .string B, .int .i64 (one1 H nExp er (fun s => (timeS s).2))] ∧ (∃ rs', Blk w' gr 37 rs' ∧ (one1 H nExp er (fun s => (timeS s).2) = 0 → RQF gr gx w' (.agg rs') { r with exp := got H nExp r.exp (fun s => (timeS s).1) })) ∧ Kp gr gx w w' := by
 rw [one1_nil h0]
 simp only [got_nil h0]
 exact one0_c ⟨#[69, 120, 112, 105, 114, 101, 115]⟩ (by decide) (.func (.func 22) #[] #[.pointer (some ⟨gr, 0, none⟩)]) M TG RS B X u H er gr gx hg rs r w hm hu hb hH h0 hx hr hq
theorem onek2_c (M TG RS B : ByteArray) (X : Int) (u : Value) (H : List Hdr) (er : Int) (gr gx : Nat) (hg : gr < gx) (rs : Array Value) (r : Rqt) (w : World) (hm : Ml w) (hu : RHdrs w u H) (hb : ∀ h ∈ H, h.name.length ≤ 1048576 ∧ h.value.length ≤ 1048576) (hH : H.length ≤ 1048576) (h0 : allS H nEvent = [])
  (hx : Blk w gx 58 #[.string M, .string TG, .int .i64 X, .string RS, u, .string B, .int .i64 er]) (hr : Blk w gr 37 rs) (h38 : er = 0 → rs.size = 38) (hq : er = 0 → RQF gr gx w (.agg rs) r) :
  Calls Tryz.prog 21 #[.pointer (some ⟨gx, 0, none⟩), .string ⟨#[69, 118, 101, 110, 116]⟩, .func (.func 24) #[] #[.pointer (some ⟨gr, 0, none⟩)]] w fun e w' => e = .returned (.tuple #[]) ∧ Blk w' gx 58 #[.string M, .string TG, .int .i64 X, .string RS, u, .string B, .int .i64 (one1 H nEvent er (fun s => (evS s).2))] ∧ (∃ rs', Blk w' gr 37 rs' ∧ (one1 H nEvent er (fun s => (evS s).2) = 0 → RQF gr gx w' (.agg rs') { r with evn := got H nEvent r.evn (fun s => (evS s).1.1), evp := got H nEvent r.evp (fun s => (evS s).1.2) })) ∧ Kp gr gx w w' := by
 rw [one1_nil h0]
 simp only [got_nil h0]
 exact one0_c ⟨#[69, 118, 101, 110, 116]⟩ (by decide) (.func (.func 24) #[] #[.pointer (some ⟨gr, 0, none⟩)]) M TG RS B X u H er gr gx hg rs r w hm hu hb hH h0 hx hr hq
theorem onek3_c (M TG RS B : ByteArray) (X : Int) (u : Value) (H : List Hdr) (er : Int) (gr gx : Nat) (hg : gr < gx) (rs : Array Value) (r : Rqt) (w : World) (hm : Ml w) (hu : RHdrs w u H) (hb : ∀ h ∈ H, h.name.length ≤ 1048576 ∧ h.value.length ≤ 1048576) (hH : H.length ≤ 1048576) (h0 : allS H nContact = [])
  (hx : Blk w gx 58 #[.string M, .string TG, .int .i64 X, .string RS, u, .string B, .int .i64 er]) (hr : Blk w gr 37 rs) (h38 : er = 0 → rs.size = 38) (hq : er = 0 → RQF gr gx w (.agg rs) r) :
  Calls Tryz.prog 21 #[.pointer (some ⟨gx, 0, none⟩), .string ⟨#[67, 111, 110, 116, 97, 99, 116]⟩, .func (.func 26) #[] #[.pointer (some ⟨gr, 0, none⟩)]] w fun e w' => e = .returned (.tuple #[]) ∧ Blk w' gx 58 #[.string M, .string TG, .int .i64 X, .string RS, u, .string B, .int .i64 (one1 H nContact er (fun s => (listA s).2))] ∧ (∃ rs', Blk w' gr 37 rs' ∧ (one1 H nContact er (fun s => (listA s).2) = 0 → RQF gr gx w' (.agg rs') { r with contact := got H nContact r.contact (fun s => (listA s).1) })) ∧ Kp gr gx w w' := by
 rw [one1_nil h0]
 simp only [got_nil h0]
 exact one0_c ⟨#[67, 111, 110, 116, 97, 99, 116]⟩ (by decide) (.func (.func 26) #[] #[.pointer (some ⟨gr, 0, none⟩)]) M TG RS B X u H er gr gx hg rs r w hm hu hb hH h0 hx hr hq
theorem onek4_c (M TG RS B : ByteArray) (X : Int) (u : Value) (H : List Hdr) (er : Int) (gr gx : Nat) (hg : gr < gx) (rs : Array Value) (r : Rqt) (w : World) (hm : Ml w) (hu : RHdrs w u H) (hb : ∀ h ∈ H, h.name.length ≤ 1048576 ∧ h.value.length ≤ 1048576) (hH : H.length ≤ 1048576) (h0 : allS H nType = [])
  (hx : Blk w gx 58 #[.string M, .string TG, .int .i64 X, .string RS, u, .string B, .int .i64 er]) (hr : Blk w gr 37 rs) (h38 : er = 0 → rs.size = 38) (hq : er = 0 → RQF gr gx w (.agg rs) r) :
  Calls Tryz.prog 21 #[.pointer (some ⟨gx, 0, none⟩), .string ⟨#[67, 111, 110, 116, 101, 110, 116, 45, 84, 121, 112, 101]⟩, .func (.func 28) #[] #[.pointer (some ⟨gr, 0, none⟩)]] w fun e w' => e = .returned (.tuple #[]) ∧ Blk w' gx 58 #[.string M, .string TG, .int .i64 X, .string RS, u, .string B, .int .i64 (one1 H nType er (fun _ => 0))] ∧ (∃ rs', Blk w' gr 37 rs' ∧ (one1 H nType er (fun _ => 0) = 0 → RQF gr gx w' (.agg rs') { r with typ := got H nType r.typ typeOf })) ∧ Kp gr gx w w' := by
 rw [one1_nil h0]
 simp only [got_nil h0]
 exact one0_c ⟨#[67, 111, 110, 116, 101, 110, 116, 45, 84, 121, 112, 101]⟩ (by decide) (.func (.func 28) #[] #[.pointer (some ⟨gr, 0, none⟩)]) M TG RS B X u H er gr gx hg rs r w hm hu hb hH h0 hx hr hq
theorem onek5_c (M TG RS B : ByteArray) (X : Int) (u : Value) (H : List Hdr) (er : Int) (gr gx : Nat) (hg : gr < gx) (rs : Array Value) (r : Rqt) (w : World) (hm : Ml w) (hu : RHdrs w u H) (hb : ∀ h ∈ H, h.name.length ≤ 1048576 ∧ h.value.length ≤ 1048576) (hH : H.length ≤ 1048576) (h0 : allS H nMatch = [])
  (hx : Blk w gx 58 #[.string M, .string TG, .int .i64 X, .string RS, u, .string B, .int .i64 er]) (hr : Blk w gr 37 rs) (h38 : er = 0 → rs.size = 38) (hq : er = 0 → RQF gr gx w (.agg rs) r) :
  Calls Tryz.prog 21 #[.pointer (some ⟨gx, 0, none⟩), .string ⟨#[83, 73, 80, 45, 73, 102, 45, 77, 97, 116, 99, 104]⟩, .func (.func 30) #[] #[.pointer (some ⟨gr, 0, none⟩)]] w fun e w' => e = .returned (.tuple #[]) ∧ Blk w' gx 58 #[.string M, .string TG, .int .i64 X, .string RS, u, .string B, .int .i64 (one1 H nMatch er (fun s => if token s = true then 0 else 160))] ∧ (∃ rs', Blk w' gr 37 rs' ∧ (one1 H nMatch er (fun s => if token s = true then 0 else 160) = 0 → RQF gr gx w' (.agg rs') { r with mat := got H nMatch r.mat id })) ∧ Kp gr gx w w' := by
 rw [one1_nil h0]
 simp only [got_nil h0]
 exact one0_c ⟨#[83, 73, 80, 45, 73, 102, 45, 77, 97, 116, 99, 104]⟩ (by decide) (.func (.func 30) #[] #[.pointer (some ⟨gr, 0, none⟩)]) M TG RS B X u H er gr gx hg rs r w hm hu hb hH h0 hx hr hq
end Go.Proofs.YtgkilllbkljibaaGreatDoor
