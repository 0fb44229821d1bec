/- Contracts of Go functions, and plain laws. No condition but those told. -/
import Derived.Test.YtgkilllbkljibaaGreatDoorRlf
import Derived.Test.YtgkilllbkljibaaGreatDoorRpc
import Derived.Test.YtgkilllbkljibaaGreatDoorRcl
import Derived.Test.YtgkilllbkljibaaGreatDoorR01
import Derived.Test.YtgkilllbkljibaaGreatDoorRY01
set_option linter.unusedSimpArgs false
set_option linter.unusedVariables false
set_option maxRecDepth 100000
namespace Go.Proofs.YtgkilllbkljibaaGreatDoor
open Go.RowKit Go.Sort
def nmF : Nat → List UInt8 | 0 => nExp | 1 => nEvent | 2 => nContact | 3 => nType | _ => nMatch
def efF : Nat → List UInt8 → Int | 0 => fun s => (timeS s).2 | 1 => fun s => (evS s).2 | 2 => fun s => (listA s).2 | 3 => fun _ => 0 | _ => fun s => if token s = true then 0 else 160
def fer (H : List Hdr) : Nat → Int | 0 => 0 | k + 1 => one1 H (nmF k) (fer H k) (efF k)
def setF (H : List Hdr) (r : Rqt) : Nat → Rqt
 | 0 => { r with exp := got H nExp (-1) (fun s => (timeS s).1) }
 | 1 => { r with evn := got H nEvent [] (fun s => (evS s).1.1), evp := got H nEvent [] (fun s => (evS s).1.2) }
 | 2 => { r with contact := got H nContact [] (fun s => (listA s).1) }
 | 3 => { r with typ := got H nType [] typeOf }
 | _ => { r with mat := got H nMatch [] id }
def fld (H : List Hdr) (r : Rqt) : Nat → Rqt | 0 => r | k + 1 => setF H (fld H r k) k
def RqD (r : Rqt) : Prop := r.exp = -1 ∧ r.evn = [] ∧ r.evp = [] ∧ r.contact = [] ∧ r.typ = [] ∧ r.mat = []
theorem fer_nil {H : List Hdr} {k : Nat} (h : fer H k = 0) (hl : allS H (nmF k) = []) : fer H (k + 1) = 0 := by
 unfold fer one1; rw [h, hl]; rfl
theorem fer_one {H : List Hdr} {k : Nat} {x : List UInt8} (h : fer H k = 0) (hl : allS H (nmF k) = [x]) : fer H (k + 1) = efF k x := by
 unfold fer one1; rw [h, hl]; rfl
theorem fer_many {H : List Hdr} {k : Nat} {x y : List UInt8} {t : List (List UInt8)} (h : fer H k = 0) (hl : allS H (nmF k) = x :: y :: t) : fer H (k + 1) = 4 := by
 unfold fer one1; rw [h, hl]; rfl
theorem fer_up {H : List Hdr} {k : Nat} (h : fer H k ≠ 0) : ∀ j, fer H (k + j) = fer H k
 | 0 => rfl
 | j + 1 => by
  have ih := fer_up h j
  show one1 H (nmF (k + j)) (fer H (k + j)) (efF (k + j)) = _
  unfold one1
  rw [ih, if_pos h]
theorem fer_5 {H : List Hdr} {k : Nat} {c : Int} (hk : k < 5) (h : fer H (k + 1) = c) (h0 : c ≠ 0) : fer H 5 = c := by
 have := fer_up (H := H) (k := k + 1) (by rw [h]; exact h0) (4 - k)
 rw [show k + 1 + (4 - k) = 5 by omega, h] at this
 exact this
theorem got_nil {α : Type} {H : List Hdr} {n : List UInt8} {d : α} {f : List UInt8 → α} (hl : allS H n = []) : got H n d f = d := by unfold got; rw [hl]
theorem got_one {α : Type} {H : List Hdr} {n x : List UInt8} {d : α} {f : List UInt8 → α} (hl : allS H n = [x]) : got H n d f = f x := by unfold got; rw [hl]
theorem fld_nil {H : List Hdr} {r : Rqt} (hd : RqD r) {k : Nat} (hk : k < 5) (hl : allS H (nmF k) = []) : fld H r (k + 1) = fld H r k := by
 obtain ⟨meth, tgt, branch, by_, fr, dst, fromT, toT, call, seq, exp, evn, evp, contact, routes, accept, typ, mat, body⟩ := r
 obtain ⟨h1, h2, h3, h4, h5, h6⟩ := hd
 dsimp only at h1 h2 h3 h4 h5 h6
 subst h1 h2 h3 h4 h5 h6
 rcases (show k = 0 ∨ k = 1 ∨ k = 2 ∨ k = 3 ∨ k = 4 by omega) with rfl | rfl | rfl | rfl | rfl
 all_goals (simp only [nmF] at hl; simp only [fld, setF, got_nil hl])
def FPost (H : List Hdr) (r : Rqt) (w : World) (e : Ending) (w' : World) : Prop :=
 ∃ xs : Array Value, e = .returned (.tuple #[.agg xs, .int .i64 (fer H 5)]) ∧ xs.size = 38 ∧ (xs.toList.all fun v => v.oneCell') = true ∧ Below w.heap.size w w' ∧
  (fer H 5 = 0 → RRqt w' (.agg xs) (fld H r 5) ∧ ∃ v, xs[32]? = some v ∧ RAdrsF w.heap.size w' v (fld H r 5).contact)
theorem fEnd {H : List Hdr} {r : Rqt} {w w' : World} {xs : Array Value} {c : Int} (hx : xs.size = 38) (h1 : (xs.toList.all fun v => v.oneCell') = true) (hc : fer H 5 = c) (h0 : c ≠ 0) (hB : Below w.heap.size w w') : FPost H r w (.returned (.tuple #[.agg xs, .int .i64 c])) w' :=
 ⟨xs, by rw [hc], hx, h1, hB, fun h => absurd (hc.symm.trans h) h0⟩
theorem RQF.con9 {g1 g2 : Nat} {w : World} {rs : Array Value} {r : Rqt} (h : RQF g1 g2 w (.agg rs) r) : ∃ v, rs[32]? = some v ∧ RA2 g1 g2 w v r.contact := by
 obtain ⟨u1, u2, u3, u4, u5, u6, u7, u8, u9, u10, u11, u12, e, h1, h2, h3, h4, h5, h6, h7, h8, h9, h10, h11, h12⟩ := h
 injection e with e
 exact ⟨u10, by rw [e]; rfl, h10⟩
def nms5 : Array Value := #[.string ⟨#[69, 120, 112, 105, 114, 101, 115]⟩, .string ⟨#[69, 118, 101, 110, 116]⟩, .string ⟨#[67, 111, 110, 116, 97, 99, 116]⟩, .string ⟨#[67, 111, 110, 116, 101, 110, 116, 45, 84, 121, 112, 101]⟩, .string ⟨#[83, 73, 80, 45, 73, 102, 45, 77, 97, 116, 99, 104]⟩]
theorem nms5_at {k : Nat} (h : k < 5) : nms5[k]? = some (.string (bs (nmF k))) := by
 rcases (show k = 0 ∨ k = 1 ∨ k = 2 ∨ k = 3 ∨ k = 4 by omega) with rfl | rfl | rfl | rfl | rfl <;> rfl
theorem nmF_len (k : Nat) : (nmF k).length ≤ 140737488355328 := by
 unfold nmF
 split <;> decide
structure FSt (w : World) (gn : Nat) (msg rs : Array Value) (wr : World) : Prop where
 bm : Blk wr w.heap.size 24 msg
 br : Blk wr (w.heap.size + 1) 37 rs
 bv : Blk wr (w.heap.size + 2) 37 zrow
 bn : Blk wr gn 9 nms5
 hB : Below w.heap.size w wr
 hg : w.heap.size + 3 ≤ gn
theorem FSt.call {w wr w' : World} {gn : Nat} {msg rs : Array Value} (h : FSt w gn msg rs wr) (hC : Below wr.heap.size wr w') : FSt w gn msg rs w' :=
 ⟨h.bm.call hC, h.br.call hC, h.bv.call hC, h.bn.call hC, h.hB.trans (hC.mono h.hB.size), h.hg⟩
theorem FSt.store {w wr w' : World} {gn : Nat} {msg rs rs' : Array Value} (h : FSt w gn msg rs wr) (hb : Blk w' (w.heap.size + 1) 37 rs') (hf : ∀ k, k ≠ w.heap.size + 1 → w'.heap[k]? = wr.heap[k]?) (hl : ∀ B, B ≤ w.heap.size + 1 → Below B wr w') : FSt w gn msg rs' w' :=
 ⟨(hf _ (by omega)).trans h.bm, hb, (hf _ (by omega)).trans h.bv, (hf _ (by have := h.hg; omega)).trans h.bn, h.hB.trans (hl _ (by omega)), h.hg⟩
theorem FSt.drw {w wr : World} {gn : Nat} {msg rs : Array Value} (h : FSt w gn msg rs wr) : FSt w gn msg rs wr.drew :=
 ⟨Blk.drw h.bm, Blk.drw h.br, Blk.drw h.bv, Blk.drw h.bn, zDrew h.hB, h.hg⟩
theorem keep_cell {w w' : World} {g : Nat} {t : TypeId} {cs : Array Value} {k b o : Nat} {v : Value} (hb : Blk w g t cs) (hb' : Blk w' g t (cs.setIfInBounds k v)) (hf : ∀ k, k ≠ g → w'.heap[k]? = w.heap[k]?) (h : w.cell? ⟨b, o, none⟩ = some v) : w'.cell? ⟨b, o, none⟩ = some v := by
 by_cases hbg : b = g
 ·subst hbg
  rw [boxedCell hb'] 
  rw [boxedCell hb] at h
  rw [Array.getElem?_setIfInBounds]
  split
  ·rename_i e
   subst e
   rw [if_pos (Array.getElem?_eq_some_iff.1 h).1]
  ·exact h
 ·rw [World.cell?_of_block (w := w) (a := ⟨b, o, none⟩) (hf b hbg)]; exact h
set_option maxRecDepth 100000 in
set_option maxHeartbeats 12800000 in
theorem fieldsR10_c (M TG RS B : ByteArray) (X : Int) (u : Value) (H : List Hdr) (rs : Array Value) (r : Rqt) (w : World) (hu : RHdrs w u H) (hb : ∀ h ∈ H, h.name.length ≤ 1048576 ∧ h.value.length ≤ 1048576) (hH : H.length ≤ 1048576) (hr : RRqt w (.agg rs) r) (hd : RqD r) (hd2 : r.routes = [] ∧ r.accept = []) :
  Calls Tryz.prog 35 #[.agg #[.string M, .string TG, .int .i64 X, .string RS, u, .string B], .agg rs] w (FPost H r w) := by
 have HU := κ hu
 obtain ⟨mo, mc, rfl, _, _⟩ := hu.form
 have HAL := κ (fun (nm : ByteArray) (hn : nm.size ≤ 140737488355328) (wx : World) (h : Below w.heap.size w wx) => allR_c' M TG RS B X _ H nm hn wx (hu.below h (ρ _)) (fun h hh => by have := (hb h hh).1; omega) (by omega))
 have HVB : Hid (∀ n, ∀ x ∈ allS H n, x.length ≤ 1048576) := κ (fun n x hx => by
  obtain ⟨q, hq, rfl⟩ := allS_mem H n x hx
  exact (hb q hq).2)
 have hq0 : RQF (w.heap.size + 1) (w.heap.size + 2) w (.agg rs) r := RQF.old hr (by omega) (by omega) hd.2.2.2.1 hd2.1 hd2.2
 have HD := κ hd
 clear hu hb hr hd hd2
 go_enter Tryz.func35, Tryz.ntmps35
 go_upto_region 1 with fail
 refine any_world (R := Code.wp _ _ _ _) (fun x => Blk x w.heap.size 24 #[.string M, .string TG, .int .i64 X, .string RS, .slice mo H.length mc, .string B] ∧ Blk x (w.heap.size + 1) 37 rs ∧ Blk x (w.heap.size + 2) 37 zrow ∧ Below w.heap.size w x ∧ w.heap.size + 3 ≤ x.heap.size) ?_ ?_
 ·refine ⟨((Blk.new w _ _).alloc _).alloc _, ?_, ?_, (((Below.refl _ _).alloc (ρ _) _).alloc (by rw [World.size_alloc]; omega) _).alloc (by rw [World.size_alloc, World.size_alloc]; omega) _, by simp only [World.size_alloc]; omega⟩
  ·have := (Blk.new (w.alloc (.cells #[.string M, .string TG, .int .i64 X, .string RS, .slice mo H.length mc, .string B] 24)) 37 rs).alloc (.cells zrow 37)
   rwa [World.size_alloc] at this
  ·have := Blk.new ((w.alloc (.cells #[.string M, .string TG, .int .i64 X, .string RS, .slice mo H.length mc, .string B] 24)).alloc (.cells rs 37)) 37 zrow
   rwa [World.size_alloc, World.size_alloc] at this
 rintro w3 ⟨bm, br, bv, hB, hz⟩
 go_upto_region 2 with fail
 have hA : Below w3.heap.size w3 (w3.alloc (.cells nms5 9)) := (Below.refl _ _).alloc (ρ _) _
 refine any_world (R := Code.wp _ _ _ _) (fun x => FSt w w3.heap.size #[.string M, .string TG, .int .i64 X, .string RS, .slice mo H.length mc, .string B] rs x ∧ RQF (w.heap.size + 1) (w.heap.size + 2) x (.agg rs) r) ⟨⟨bm.call hA, br.call hA, bv.call hA, Blk.new w3 _ _, hB.trans (hA.mono hB.size), hz⟩, hq0.kp (by omega) (KeptB.of_below (hB.trans (hA.mono hB.size)))⟩ ?_
 clear hA bm br bv hB hq0
 rintro w4 ⟨hS0, hq0⟩
 have HS0 := κ hS0
 have HQ0 := κ hq0
 obtain ⟨gn, hgn⟩ : ∃ x, x = w3.heap.size := ⟨_, rfl⟩
 rw [← hgn] at HS0 ⊢
 clear hgn hz hS0 hq0
 go_wp2
 go_loopw [7] (fun i wr => ∃ (k : Nat) (rs' : Array Value), k ≤ 5 ∧ i = .int .i64 k ∧ FSt w gn #[.string M, .string TG, .int .i64 X, .string RS, .slice mo H.length mc, .string B] rs' wr ∧ RQF (w.heap.size + 1) (w.heap.size + 2) wr (.agg rs') (fld H r k) ∧ Hid (fer H k = 0)) (fun i _ => 5 - (intOf i).toNat)
 case atStart => exact ⟨0, rs, by omega, rfl, HS0.out, HQ0.out, κ rfl⟩
 case round =>
  obtain ⟨k, rs', hk, rfl, hS, hq, HE⟩ := hrel
  by_cases hlt : k < 5
  ·have HAk := κ (fun wx h => HAL.out (bs (nmF k)) (by rw [size_bs]; exact nmF_len k) wx h)
   rw [us_bs] at HAk
   have hVk := HVB.out (nmF k)
   obtain ⟨LS, hLS⟩ : ∃ x, x = allS H (nmF k) := ⟨_, rfl⟩
   rw [← hLS] at HAk hVk
   have HLS := κ hLS.symm
   have HN5 := κ (nms5_at hlt)
   have k0 : (0 : Int) ≤ (k : Int) := by omega
   have k1 : (k : Int) < 5 := by omega
   clear hLS
   go_upto_region 5 with fail
   refine wp_region_held_drew (S := fun wx => Blk wx w.heap.size 24 #[.string M, .string TG, .int .i64 X, .string RS, .slice mo H.length mc, .string B] ∧ Blk wx gn 9 nms5) (by kernel_rfl) ⟨Blk.drw hS.bm, Blk.drw hS.bn⟩ (fun hHeld => ?_)
   replace hS := hS.drw
   replace hq := hq.kp (w' := wr.drew) (by omega) (KeptB.of_below (zDrew (Below.refl _ _)))
   refine tkH 0 ?_ (v := .agg #[.string M, .string TG, .int .i64 X, .string RS, .slice mo H.length mc, .string B]) (hy := fun wx hSw => run_loadBo (off := 0) rfl rfl Tryz.underlying24 (by kernel_rfl) hSw.1 (whole _))
   try simp only [Act.put, agT]
   refine tkH 1 ?_
   try simp only [Act.put, agT]
   refine tkH 2 ?_
   try simp only [Act.put, agT]
   refine tkH 3 ?_
   try simp only [Act.put, agT]
   refine tkH 4 ?_ (v := .string (bs (nmF k))) (hy := fun wx hSw => by have c1 : wx.cell? ⟨gn, k, none⟩ = some (.string (bs (nmF k))) := (boxedCell hSw.2 k).trans HN5.out; go_simp)
   try simp only [Act.put, agT]
   refine rdyH 5 (fun K hK => ?_)
   go_simp
   go_at_call 63
   refine (HAk.out _ hS.hB).mono ?_
   rintro e w5 ⟨va, rfl, hva, hC⟩
   replace hS := hS.call hC
   replace hq := hq.kp (by omega) (KeptB.of_below hC)
   clear hC HAk
   refine hK.out _ _ ⟨hS.bm, hS.bn⟩ (fun hHeld => ?_)
   clear hK K
   try simp only [Act.put, agT]
   refine tkH 6 ?_
   try simp only [Act.put, agT]
   refine wpAnyH_done (by kernel_rfl) ?_ _
   clear hHeld HN5
   obtain ⟨ao, cap, rfl, hm1, c1⟩ := hva.form
   unfold maxLen at hm1
   match LS, hVk, HLS, hm1, c1 with
   | [], _, HLS, _, _ =>
    clear hva
    go_wp2
    go_roundw
    case rel => exact ⟨k + 1, rs', by omega, by go_num, hS, by rw [fld_nil HD.out hlt HLS.out]; exact hq, κ (fer_nil HE.out HLS.out)⟩
    case measure => simp [intOf]; omega
   | x :: y :: t, _, HLS, hm1, _ =>
    have t1 : decide ((1 : Int) < ((x :: y :: t).length : Int)) = true := by simp; omega
    have HF := κ (fer_many HE.out HLS.out)
    generalize (x :: y :: t).length = n at t1 hm1 hva ⊢
    clear hva
    go_wp2_with (first | ((with_reducible refine holdLoad 37 rfl ?_); unfold Hold; refine wpList_loadB (vs := rs') rfl rfl rfl Tryz.underlying37 (by rw [hq.size]; rfl) hS.br (whole _) ?_) | ((with_reducible refine holdStore 37 rfl ?_); unfold Hold; refine wpList_storeB (vs := rs') (cs' := rs') rfl rfl rfl rfl (by rw [hq.size]; rfl) hS.bv (by rw [hq.size]; exact Nat.le_of_eq (by kernel_rfl)) hq.one (setAll_whole (by rw [hq.size]; kernel_rfl)) ?_; intro w9 bz9 hfar9 hsz9 hbel9))
    refine bodyPost_ret (results_ct rfl rfl rfl Tryz.underlying37 (by rw [hq.size]; rfl) bz9) rfl ?_
    exact fEnd hq.size hq.one (fer_5 hlt HF.out (by decide)) (by decide) (hS.hB.trans (hbel9 _ (by omega)))
   | [x], hVk, HLS, _, c1 =>
    obtain ⟨b, off, rfl, hb1, hc1⟩ := c1 (by simp)
    have x0 : w5.cell? ⟨b, off, none⟩ = some (.string (bs x)) := hc1 0 (by simp)
    have hx := hVk x (List.mem_singleton.2 rfl)
    have hF := fer_one HE.out HLS.out
    have hG : fld H r (k + 1) = setF H (fld H r k) k := rfl
    clear c1 hc1 hb1 hva hVk k0 k1
    rcases (show k = 0 ∨ k = 1 ∨ k = 2 ∨ k = 3 ∨ k = 4 by omega) with rfl | rfl | rfl | rfl | rfl
    all_goals clear hk hlt
    ·simp only [setF, nmF, efF] at hF hG HLS
     simp only [got_one HLS.out] at hG
     have HC := κ (fun wx => timeR_c (bs x) (by rw [size_bs]; omega) wx)
     rw [us_bs] at HC
     clear hx
     obtain ⟨c, hc0⟩ : ∃ c, c = (timeS x).2 := ⟨_, rfl⟩
     have HF := κ (hF.trans hc0.symm)
     have HG := κ hG
     clear hF hG
     rw [← hc0] at HC
     clear hc0
     by_cases h0 : c = 0
     ·subst h0
      go_wp2_with (first | (go_at_call 97; refine (HC.out _).mono ?_; rintro e w6 ⟨rfl, rfl⟩) | ((with_reducible refine holdStore 3 rfl ?_); unfold Hold; refine wpList_storeC (off := 29) (v := .int .i64 (timeS x).1) rfl rfl rfl rfl (by kernel_rfl) hS.br (by rw [hq.size]; omega) (by kernel_rfl) (by kernel_rfl) rfl ?_; intro w8 b8 hf8 hs8 hl8; replace hq := hq.exp_ (n := (timeS x).1); replace hq := hq.kp (by omega) (KeptB.store1 hf8 hs8); replace hS := hS.store b8 hf8 hl8; clear b8 hf8 hs8 hl8))
      go_roundw
      case rel => exact ⟨1, _, by omega, by go_num, hS, by rw [HG.out]; exact hq, HF⟩
      case measure => simp [intOf]
     ·have t1 : (c != 0) = true := by simpa using h0
      have H0 := κ h0
      clear h0
      go_wp2_with (first | (go_at_call 97; refine (HC.out _).mono ?_; rintro e w6 ⟨rfl, rfl⟩) | ((with_reducible refine holdStore 3 rfl ?_); unfold Hold; refine wpList_storeC (off := 29) (v := .int .i64 (timeS x).1) rfl rfl rfl rfl (by kernel_rfl) hS.br (by rw [hq.size]; omega) (by kernel_rfl) (by kernel_rfl) rfl ?_; intro w8 b8 hf8 hs8 hl8; replace hq := hq.exp_ (n := (timeS x).1); replace hq := hq.kp (by omega) (KeptB.store1 hf8 hs8); replace hS := hS.store b8 hf8 hl8; clear b8 hf8 hs8 hl8) | ((with_reducible refine holdLoad 37 rfl ?_); unfold Hold; refine wpList_loadB (vs := (rs'.setIfInBounds 29 (.int .i64 (timeS x).1))) rfl rfl rfl Tryz.underlying37 (by rw [hq.size]; rfl) hS.br (whole _) ?_) | ((with_reducible refine holdStore 37 rfl ?_); unfold Hold; refine wpList_storeB (vs := (rs'.setIfInBounds 29 (.int .i64 (timeS x).1))) (cs' := (rs'.setIfInBounds 29 (.int .i64 (timeS x).1))) rfl rfl rfl rfl (by rw [hq.size]; rfl) hS.bv (by rw [hq.size]; exact Nat.le_of_eq (by kernel_rfl)) hq.one (setAll_whole (by rw [hq.size]; kernel_rfl)) ?_; intro w9 bz9 hfar9 hsz9 hbel9))
      refine bodyPost_ret (results_ct rfl rfl rfl Tryz.underlying37 (by rw [hq.size]; rfl) bz9) rfl ?_
      exact fEnd hq.size hq.one (fer_5 (by omega) HF.out H0.out) H0.out (hS.hB.trans (hbel9 _ (by omega)))
    ·simp only [setF, nmF, efF] at hF hG HLS
     simp only [got_one HLS.out] at hG
     have HC := κ (fun wx => eventR_c (bs x) (by rw [size_bs]; omega) wx)
     unfold EvPost at HC
     rw [us_bs] at HC
     clear hx
     obtain ⟨c, hc0⟩ : ∃ c, c = (evS x).2 := ⟨_, rfl⟩
     have HF := κ (hF.trans hc0.symm)
     have HG := κ hG
     clear hF hG
     rw [← hc0] at HC
     clear hc0
     by_cases h0 : c = 0
     ·subst h0
      go_wp2_with (first | (go_at_call 98; refine (HC.out _).mono ?_; rintro e w6 ⟨u, rfl, hu, hF, hC⟩; have hlt := hS.bv.lt; replace hS := hS.call hC; have h38 := hq.size; replace hq := hq.kp (by omega) (KeptB.of_below hC); obtain ⟨uo, uc, rfl⟩ := hu.form'; replace hq := hq.evt_ (N := (evS x).1.1) (RP2.new hu hF (by omega) hlt); clear hlt hu hF hC) | ((with_reducible refine holdStore 33 rfl ?_); unfold Hold; refine wpList_storeB (off := 30) (vs := #[.string (bs (evS x).1.1), .slice uo (evS x).1.2.length uc]) rfl rfl rfl rfl (by kernel_rfl) hS.br (by rw [h38]; exact Nat.le_of_ble_eq_true (by kernel_rfl)) (by kernel_rfl) rfl ?_; intro w8 b8 hf8 hs8 hl8; replace hq := hq.kp (by omega) (KeptB.store1 hf8 hs8); replace hS := hS.store b8 hf8 hl8; clear b8 hf8 hs8 hl8))
      go_roundw
      case rel => exact ⟨2, _, by omega, by go_num, hS, by rw [HG.out]; exact hq, HF⟩
      case measure => simp [intOf]
     ·have t1 : (c != 0) = true := by simpa using h0
      have H0 := κ h0
      clear h0
      go_wp2_with (first | (go_at_call 98; refine (HC.out _).mono ?_; rintro e w6 ⟨u, rfl, hu, hF, hC⟩; have hlt := hS.bv.lt; replace hS := hS.call hC; have h38 := hq.size; replace hq := hq.kp (by omega) (KeptB.of_below hC); obtain ⟨uo, uc, rfl⟩ := hu.form'; replace hq := hq.evt_ (N := (evS x).1.1) (RP2.new hu hF (by omega) hlt); clear hlt hu hF hC) | ((with_reducible refine holdStore 33 rfl ?_); unfold Hold; refine wpList_storeB (off := 30) (vs := #[.string (bs (evS x).1.1), .slice uo (evS x).1.2.length uc]) rfl rfl rfl rfl (by kernel_rfl) hS.br (by rw [h38]; exact Nat.le_of_ble_eq_true (by kernel_rfl)) (by kernel_rfl) rfl ?_; intro w8 b8 hf8 hs8 hl8; replace hq := hq.kp (by omega) (KeptB.store1 hf8 hs8); replace hS := hS.store b8 hf8 hl8; clear b8 hf8 hs8 hl8) | ((with_reducible refine holdLoad 37 rfl ?_); unfold Hold; refine wpList_loadB (vs := (setAll rs' 30 [.string (bs (evS x).1.1), .slice uo (evS x).1.2.length uc])) rfl rfl rfl Tryz.underlying37 (by rw [hq.size]; rfl) hS.br (whole _) ?_) | ((with_reducible refine holdStore 37 rfl ?_); unfold Hold; refine wpList_storeB (vs := (setAll rs' 30 [.string (bs (evS x).1.1), .slice uo (evS x).1.2.length uc])) (cs' := (setAll rs' 30 [.string (bs (evS x).1.1), .slice uo (evS x).1.2.length uc])) rfl rfl rfl rfl (by rw [hq.size]; rfl) hS.bv (by rw [hq.size]; exact Nat.le_of_eq (by kernel_rfl)) hq.one (setAll_whole (by rw [hq.size]; kernel_rfl)) ?_; intro w9 bz9 hfar9 hsz9 hbel9))
      refine bodyPost_ret (results_ct rfl rfl rfl Tryz.underlying37 (by rw [hq.size]; rfl) bz9) rfl ?_
      exact fEnd hq.size hq.one (fer_5 (by omega) HF.out H0.out) H0.out (hS.hB.trans (hbel9 _ (by omega)))
    ·simp only [setF, nmF, efF] at hF hG HLS
     simp only [got_one HLS.out] at hG
     have HC := κ (fun wx => listAR_f (bs x) (by rw [size_bs]; omega) wx)
     rw [us_bs] at HC
     clear hx
     obtain ⟨c, hc0⟩ : ∃ c, c = (listA x).2 := ⟨_, rfl⟩
     have HF := κ (hF.trans hc0.symm)
     have HG := κ hG
     clear hF hG
     rw [← hc0] at HC
     clear hc0
     by_cases h0 : c = 0
     ·subst h0
      go_wp2_with (first | (go_at_call 99; refine (HC.out _).mono ?_; rintro e w6 ⟨u, rfl, hu, hC⟩; have hlt := hS.bv.lt; replace hS := hS.call hC; have h38 := hq.size; replace hq := hq.kp (by omega) (KeptB.of_below hC); obtain ⟨uo, uc, rfl, _⟩ := hu.read.form; replace hq := hq.contact_ (RAdrsF.lower hu hlt); clear hlt hu hC) | ((with_reducible refine holdStore 34 rfl ?_); unfold Hold; refine wpList_storeC (off := 32) (v := .slice uo (listA x).1.length uc) rfl rfl rfl rfl (by kernel_rfl) hS.br (by rw [h38]; omega) (by kernel_rfl) (by kernel_rfl) rfl ?_; intro w8 b8 hf8 hs8 hl8; replace hq := hq.kp (by omega) (KeptB.store1 hf8 hs8); replace hS := hS.store b8 hf8 hl8; clear b8 hf8 hs8 hl8))
      go_roundw
      case rel => exact ⟨3, _, by omega, by go_num, hS, by rw [HG.out]; exact hq, HF⟩
      case measure => simp [intOf]
     ·have t1 : (c != 0) = true := by simpa using h0
      have H0 := κ h0
      clear h0
      go_wp2_with (first | (go_at_call 99; refine (HC.out _).mono ?_; rintro e w6 ⟨u, rfl, hu, hC⟩; have hlt := hS.bv.lt; replace hS := hS.call hC; have h38 := hq.size; replace hq := hq.kp (by omega) (KeptB.of_below hC); obtain ⟨uo, uc, rfl, _⟩ := hu.read.form; replace hq := hq.contact_ (RAdrsF.lower hu hlt); clear hlt hu hC) | ((with_reducible refine holdStore 34 rfl ?_); unfold Hold; refine wpList_storeC (off := 32) (v := .slice uo (listA x).1.length uc) rfl rfl rfl rfl (by kernel_rfl) hS.br (by rw [h38]; omega) (by kernel_rfl) (by kernel_rfl) rfl ?_; intro w8 b8 hf8 hs8 hl8; replace hq := hq.kp (by omega) (KeptB.store1 hf8 hs8); replace hS := hS.store b8 hf8 hl8; clear b8 hf8 hs8 hl8) | ((with_reducible refine holdLoad 37 rfl ?_); unfold Hold; refine wpList_loadB (vs := (rs'.setIfInBounds 32 (.slice uo (listA x).1.length uc))) rfl rfl rfl Tryz.underlying37 (by rw [hq.size]; rfl) hS.br (whole _) ?_) | ((with_reducible refine holdStore 37 rfl ?_); unfold Hold; refine wpList_storeB (vs := (rs'.setIfInBounds 32 (.slice uo (listA x).1.length uc))) (cs' := (rs'.setIfInBounds 32 (.slice uo (listA x).1.length uc))) rfl rfl rfl rfl (by rw [hq.size]; rfl) hS.bv (by rw [hq.size]; exact Nat.le_of_eq (by kernel_rfl)) hq.one (setAll_whole (by rw [hq.size]; kernel_rfl)) ?_; intro w9 bz9 hfar9 hsz9 hbel9))
      refine bodyPost_ret (results_ct rfl rfl rfl Tryz.underlying37 (by rw [hq.size]; rfl) bz9) rfl ?_
      exact fEnd hq.size hq.one (fer_5 (by omega) HF.out H0.out) H0.out (hS.hB.trans (hbel9 _ (by omega)))
    ·simp only [setF, nmF, efF] at hF hG HLS
     simp only [got_one HLS.out] at hG
     have HC := κ (fun wx => typeR_c (bs x) (by rw [size_bs]; omega) wx)
     rw [us_bs] at HC
     clear hx
     obtain ⟨c, hc0⟩ : ∃ c, c = (0 : Int) := ⟨_, rfl⟩
     have HF := κ (hF.trans hc0.symm)
     have HG := κ hG
     clear hF hG
     subst hc0
     go_wp2_with (first | (go_at_call 100; refine (HC.out _).mono ?_; rintro e w6 ⟨rfl, hC⟩; replace hS := hS.call hC; replace hq := hq.kp (by omega) (KeptB.of_below hC); clear hC) | ((with_reducible refine holdStore 9 rfl ?_); unfold Hold; refine wpList_storeC (off := 35) (v := .string (bs (typeOf x))) rfl rfl rfl rfl (by kernel_rfl) hS.br (by rw [hq.size]; omega) (by kernel_rfl) (by kernel_rfl) rfl ?_; intro w8 b8 hf8 hs8 hl8; replace hq := hq.typ_ (N := typeOf x); replace hq := hq.kp (by omega) (KeptB.store1 hf8 hs8); replace hS := hS.store b8 hf8 hl8; clear b8 hf8 hs8 hl8))
     go_roundw
     case rel => exact ⟨4, _, by omega, by go_num, hS, by rw [HG.out]; exact hq, HF⟩
     case measure => simp [intOf]
    ·simp only [setF, nmF, efF] at hF hG HLS
     simp only [got_one HLS.out] at hG
     have HC := κ (fun wx => tokenR_c (bs x) (by rw [size_bs]; omega) wx)
     rw [us_bs] at HC
     clear hx
     obtain ⟨c, hc0⟩ : ∃ c, c = (if token x = true then 0 else 160 : Int) := ⟨_, rfl⟩
     have HF := κ (hF.trans hc0.symm)
     have HG := κ hG
     clear hF hG
     obtain ⟨tk, htk⟩ : ∃ t, t = token x := ⟨_, rfl⟩
     rw [← htk] at hc0 HC
     clear htk
     cases tk
     ·obtain rfl : c = 160 := hc0
      go_wp2_with (first | ((with_reducible refine holdStore 9 rfl ?_); unfold Hold; refine wpList_storeC (off := 36) (v := .string (bs x)) rfl rfl rfl rfl (by kernel_rfl) hS.br (by rw [hq.size]; omega) (by kernel_rfl) (by kernel_rfl) rfl ?_; intro w8 b8 hf8 hs8 hl8; replace hq := hq.mat_ (N := x); replace x0 := keep_cell hS.br b8 hf8 x0; replace hq := hq.kp (by omega) (KeptB.store1 hf8 hs8); replace hS := hS.store b8 hf8 hl8; clear b8 hf8 hs8 hl8) | (go_at_call 59; refine (HC.out _).mono ?_; rintro e w6 ⟨rfl, rfl⟩) | ((with_reducible refine holdLoad 37 rfl ?_); unfold Hold; refine wpList_loadB (vs := (rs'.setIfInBounds 36 (.string (bs x)))) rfl rfl rfl Tryz.underlying37 (by rw [hq.size]; rfl) hS.br (whole _) ?_) | ((with_reducible refine holdStore 37 rfl ?_); unfold Hold; refine wpList_storeB (vs := (rs'.setIfInBounds 36 (.string (bs x)))) (cs' := (rs'.setIfInBounds 36 (.string (bs x)))) rfl rfl rfl rfl (by rw [hq.size]; rfl) hS.bv (by rw [hq.size]; exact Nat.le_of_eq (by kernel_rfl)) hq.one (setAll_whole (by rw [hq.size]; kernel_rfl)) ?_; intro w9 bz9 hfar9 hsz9 hbel9))
      refine bodyPost_ret (results_ct rfl rfl rfl Tryz.underlying37 (by rw [hq.size]; rfl) bz9) rfl ?_
      exact fEnd hq.size hq.one (fer_5 (by omega) HF.out (by decide)) (by decide) (hS.hB.trans (hbel9 _ (by omega)))
     ·obtain rfl : c = 0 := hc0
      go_wp2_with (first | ((with_reducible refine holdStore 9 rfl ?_); unfold Hold; refine wpList_storeC (off := 36) (v := .string (bs x)) rfl rfl rfl rfl (by kernel_rfl) hS.br (by rw [hq.size]; omega) (by kernel_rfl) (by kernel_rfl) rfl ?_; intro w8 b8 hf8 hs8 hl8; replace hq := hq.mat_ (N := x); replace x0 := keep_cell hS.br b8 hf8 x0; replace hq := hq.kp (by omega) (KeptB.store1 hf8 hs8); replace hS := hS.store b8 hf8 hl8; clear b8 hf8 hs8 hl8) | (go_at_call 59; refine (HC.out _).mono ?_; rintro e w6 ⟨rfl, rfl⟩))
      go_roundw
      case rel => exact ⟨5, _, by omega, by go_num, hS, by rw [HG.out]; exact hq, HF⟩
      case measure => simp [intOf]
  ·obtain rfl : k = 5 := by omega
   go_wp2_with (first | ((with_reducible refine holdLoad 37 rfl ?_); unfold Hold; refine wpList_loadB (vs := rs') rfl rfl rfl Tryz.underlying37 (by rw [hq.size]; rfl) hS.br (whole _) ?_) | ((with_reducible refine holdStore 37 rfl ?_); unfold Hold; refine wpList_storeB (vs := rs') (cs' := rs') rfl rfl rfl rfl (by rw [hq.size]; rfl) hS.bv (by rw [hq.size]; exact Nat.le_of_eq (by kernel_rfl)) hq.one (setAll_whole (by rw [hq.size]; kernel_rfl)) ?_; intro w9 bz9 hfar9 hsz9 hbel9))
   refine bodyPost_ret (results_ct rfl rfl rfl Tryz.underlying37 (by rw [hq.size]; rfl) bz9) rfl ?_
   obtain ⟨v, hv, hA⟩ := hq.con9
   exact ⟨rs', by rw [HE.out]; rfl, hq.size, hq.one, hS.hB.trans (hbel9 _ (by omega)), fun _ => ⟨hq.out (by omega) (ρ _) hS.bv (by kernel_rfl) hfar9 hsz9, v, hv, RAdrsF.lower (RAdrsF.keptB (g1 := w.heap.size + 2) (g2 := w.heap.size + 2) hA (by omega) (by omega) (KeptB.store1 hfar9 hsz9)) (by omega)⟩⟩
end Go.Proofs.YtgkilllbkljibaaGreatDoor
