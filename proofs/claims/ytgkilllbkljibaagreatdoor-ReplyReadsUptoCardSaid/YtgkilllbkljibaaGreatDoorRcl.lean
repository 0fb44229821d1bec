/- Contracts of Go functions, and plain laws. No condition but those told. -/
import Derived.Test.YtgkilllbkljibaaGreatDoorRkp
set_option linter.unusedSimpArgs false
set_option linter.unusedVariables false
set_option maxRecDepth 100000
namespace Go.Proofs.YtgkilllbkljibaaGreatDoor
open Go.RowKit Go.Sort
theorem RAdrsF.lower {B B' : Nat} {w : World} {v : Value} {L : List Adr} (h : RAdrsF B w v L) (hB : B' ≤ B) : RAdrsF B' w v L := by
 rcases h with h | ⟨b, off, cap, h0, h1, h2, h2', h3, h4⟩
 ·exact .inl h
 ·refine .inr ⟨b, off, cap, Nat.le_trans hB h0, h1, h2, h2', h3, fun j hj => ?_⟩
  obtain ⟨a0, a1, a2, a3, a4, u1, u2, u3, a5, a6, a7, k, f1, f2, f3⟩ := h4 j hj
  exact ⟨a0, a1, a2, a3, a4, u1, u2, u3, a5, a6, a7, k, f1.mono hB, f2.mono hB, f3.mono hB⟩
set_option maxHeartbeats 1600000 in
theorem rd1_c (s : ByteArray) (hs : s.size ≤ 4294967280) (gr gx : Nat) (rs : Array Value) (h38 : rs.size = 38) (w : World) (hm : Ml w) (hb : Blk w gr 37 rs) :
  Calls Tryz.prog 22 #[.string s, .pointer (some ⟨gr, 0, none⟩)] w fun e w' => e = .returned (.int .i64 (timeS (us s)).2) ∧ Blk w' gr 37 (rs.setIfInBounds 29 (.int .i64 (timeS (us s)).1)) ∧ Kp gr gr w w' := by
 have H1 := κ (fun wx => time_c s (by omega) wx)
 go_enter Tryz.func22, Tryz.ntmps22
 go_wp2_with (first | (go_at_call 23; refine (H1.out _).mono ?_; rintro e w1 ⟨rfl, rfl⟩) | ((with_reducible refine holdStore 3 rfl ?_); unfold Hold; refine wpList_storeC (off := 29) (v := .int .i64 (timeS (us s)).1) rfl rfl rfl rfl (by kernel_rfl) hb (by omega) (by kernel_rfl) (by kernel_rfl) rfl ?_; intro w8 b8 hf8 hs8 hl8))
 go_ret
 exact ⟨rfl, b8, Kp.store1 hf8 hs8 hl8⟩
set_option maxHeartbeats 1600000 in
theorem rd2_c (s : ByteArray) (hs : s.size ≤ 4294967280) (gr gx : Nat) (rs : Array Value) (h38 : rs.size = 38) (w : World) (hm : Ml w) (hb : Blk w gr 37 rs) :
  Calls Tryz.prog 24 #[.string s, .pointer (some ⟨gr, 0, none⟩)] w fun e w' => ∃ u, e = .returned (.int .i64 (evS (us s)).2) ∧ Blk w' gr 37 (setAll rs 30 [.string (bs (evS (us s)).1.1), u]) ∧ RPrms w' u (evS (us s)).1.2 ∧ Fresh w.heap.size u ∧ Kp gr gr w w' := by
 have HM := κ hm
 have H1 := κ (fun wx hx => event_c s hs wx hx)
 unfold EvPost at H1
 have hlt := hb.lt
 clear hm
 go_enter Tryz.func24, Tryz.ntmps24
 go_wp2_with (first | (go_at_call 25; refine (H1.out _ HM.out).mono ?_; rintro e w1 ⟨u, rfl, hu, hF, hC⟩; replace hb := hb.call hC; obtain ⟨uo, uc, rfl⟩ := hu.form') | ((with_reducible refine holdStore 33 rfl ?_); unfold Hold; refine wpList_storeB (off := 30) (vs := #[.string (bs (evS (us s)).1.1), .slice uo (evS (us s)).1.2.length uc]) rfl rfl rfl rfl (by kernel_rfl) hb (by rw [h38]; exact Nat.le_of_ble_eq_true (by kernel_rfl)) (by kernel_rfl) rfl ?_; intro w8 b8 hf8 hs8 hl8))
 go_ret
 first | exact ⟨rfl, _, b8, Off.prms hu (Off.fresh hF hlt) hf8 (Nat.le_of_eq hs8.symm), hF, (Kp.of_below hC (Nat.le_of_lt hlt)).trans (Kp.store1 hf8 hs8 hl8)⟩ | exact ⟨_, rfl, b8, Off.prms hu (Off.fresh hF hlt) hf8 (Nat.le_of_eq hs8.symm), hF, (Kp.of_below hC (Nat.le_of_lt hlt)).trans (Kp.store1 hf8 hs8 hl8)⟩
set_option maxHeartbeats 1600000 in
theorem rd3_c (s : ByteArray) (hs : s.size ≤ 4294967280) (gr gx : Nat) (rs : Array Value) (h38 : rs.size = 38) (w : World) (hm : Ml w) (hb : Blk w gr 37 rs) :
  Calls Tryz.prog 26 #[.string s, .pointer (some ⟨gr, 0, none⟩)] w fun e w' => ∃ u, e = .returned (.int .i64 (listA (us s)).2) ∧ Blk w' gr 37 (rs.setIfInBounds 32 u) ∧ (gr < gx → gx < w.heap.size → RA2 gr gx w' u (listA (us s)).1) ∧ Kp gr gr w w' := by
 have HM := κ hm
 have H1 := κ (fun wx hx => listA_f s hs wx hx)
 have hlt := hb.lt
 clear hm
 go_enter Tryz.func26, Tryz.ntmps26
 go_wp2_with (first | (go_at_call 27; refine (H1.out _ HM.out).mono ?_; rintro e w1 ⟨u, rfl, hu, hC⟩; replace hb := hb.call hC; obtain ⟨uo, uc, rfl, _⟩ := hu.read.form) | ((with_reducible refine holdStore 34 rfl ?_); unfold Hold; refine wpList_storeC (off := 32) (v := .slice uo (listA (us s)).1.length uc) rfl rfl rfl rfl (by kernel_rfl) hb (by omega) (by kernel_rfl) (by kernel_rfl) rfl ?_; intro w8 b8 hf8 hs8 hl8))
 go_ret
 first | exact ⟨rfl, _, b8, fun hgr hgx => RAdrsF.keptB (g1 := gr) (g2 := gr) (RAdrsF.lower hu hgx) (by omega) (by omega) (KeptB.store1 hf8 hs8), (Kp.of_below hC (Nat.le_of_lt hlt)).trans (Kp.store1 hf8 hs8 hl8)⟩ | exact ⟨_, rfl, b8, fun hgr hgx => RAdrsF.keptB (g1 := gr) (g2 := gr) (RAdrsF.lower hu hgx) (by omega) (by omega) (KeptB.store1 hf8 hs8), (Kp.of_below hC (Nat.le_of_lt hlt)).trans (Kp.store1 hf8 hs8 hl8)⟩
set_option maxHeartbeats 1600000 in
theorem rd4_c (s : ByteArray) (hs : s.size ≤ 4294967280) (gr gx : Nat) (rs : Array Value) (h38 : rs.size = 38) (w : World) (hm : Ml w) (hb : Blk w gr 37 rs) :
  Calls Tryz.prog 28 #[.string s, .pointer (some ⟨gr, 0, none⟩)] w fun e w' => e = .returned (.int .i64 0) ∧ Blk w' gr 37 (rs.setIfInBounds 35 (.string (bs (typeOf (us s))))) ∧ Kp gr gr w w' := by
 have HM := κ hm
 have H1 := κ (fun wx hx => type_c s hs wx hx)
 have hlt := hb.lt
 clear hm
 go_enter Tryz.func28, Tryz.ntmps28
 go_wp2_with (first | (go_at_call 29; refine (H1.out _ HM.out).mono ?_; rintro e w1 ⟨rfl, hC⟩; replace hb := hb.call hC) | ((with_reducible refine holdStore 9 rfl ?_); unfold Hold; refine wpList_storeC (off := 35) (v := .string (bs (typeOf (us s)))) rfl rfl rfl rfl (by kernel_rfl) hb (by omega) (by kernel_rfl) (by kernel_rfl) rfl ?_; intro w8 b8 hf8 hs8 hl8))
 go_ret
 exact ⟨rfl, b8, (Kp.of_below hC (Nat.le_of_lt hlt)).trans (Kp.store1 hf8 hs8 hl8)⟩
set_option maxHeartbeats 1600000 in
theorem rd5_c (s : ByteArray) (hs : s.size ≤ 4294967280) (gr gx : Nat) (rs : Array Value) (h38 : rs.size = 38) (w : World) (hm : Ml w) (hb : Blk w gr 37 rs) :
  Calls Tryz.prog 30 #[.string s, .pointer (some ⟨gr, 0, none⟩)] w fun e w' => e = .returned (.int .i64 (if token (us s) = true then 0 else 160)) ∧ Blk w' gr 37 (rs.setIfInBounds 36 (.string s)) ∧ Kp gr gr w w' := by
 have H1 := κ (fun wx => token_c s (by omega) wx)
 obtain ⟨b, hb0⟩ : ∃ x, x = token (us s) := ⟨_, rfl⟩
 rw [← hb0] at H1 ⊢
 clear hb0 hm
 cases b
 all_goals go_enter Tryz.func30, Tryz.ntmps30
 all_goals go_wp2_with (first | (go_at_call 31; refine (H1.out _).mono ?_; rintro e w1 ⟨rfl, rfl⟩) | ((with_reducible refine holdStore 9 rfl ?_); unfold Hold; refine wpList_storeC (off := 36) (v := .string s) rfl rfl rfl rfl (by kernel_rfl) hb (by omega) (by kernel_rfl) (by kernel_rfl) rfl ?_; intro w8 b8 hf8 hs8 hl8))
 all_goals go_ret
 all_goals exact ⟨rfl, b8, Kp.store1 hf8 hs8 hl8⟩
end Go.Proofs.YtgkilllbkljibaaGreatDoor
