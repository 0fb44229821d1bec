/- Contracts of Go functions, and plain laws. No condition but those told. -/
import Derived.Test.YtipdiddjhimdcaaGreatDoorLds
set_option linter.unusedSimpArgs false
set_option linter.unusedVariables false
set_option maxRecDepth 100000
namespace Go.Proofs.YtipdiddjhimdcaaGreatDoor
open Go.RowKit Go.Sort
set_option maxHeartbeats 6400000 in
theorem whereDR_c (vd : Value) (d : Dlg) (w : World) (hd : RDlg w vd d) (hh : d.tgt.host.length ≤ 4294967280) (p0 : -9223372036854775808 ≤ d.tgt.port) (p1 : d.tgt.port ≤ 9223372036854775807) (hr : ∀ x ∈ d.routes, x.length ≤ 4294967280)
  (hpp : ∀ x ∈ d.routes, (parseA x).2 = 0 → (parseA x).1.uri.host.length ≤ 4294967280 ∧ -9223372036854775808 ≤ (parseA x).1.uri.port ∧ (parseA x).1.uri.port ≤ 9223372036854775807) :
  Calls Tryz.prog 30 #[vd] w fun e w' => e = .returned (.string (bs (whereD d))) ∧ Below w.heap.size w w' := by
 obtain ⟨e1, y1, e2, y2, e3, y3, e4, y4, e5, y5, e6, y6, e7, y7, e8, y8, e9, y9, rfl, _, _, _, _, _, _, h7, h8, h9⟩ := hd.lit
 have hcs := whereD_cases d
 clear hd h7 h8
 go_enter Tryz.func30, Tryz.ntmps30
 go_upto_region 1 with fail
 refine any_world (R := Code.wp _ _ _ _) (fun x => x.cell? ⟨w.heap.size, 19, none⟩ = some (.string (bs d.tgt.host)) ∧ x.cell? ⟨w.heap.size, 20, none⟩ = some (.int .i64 d.tgt.port) ∧ x.cell? ⟨w.heap.size, 23, none⟩ = some (.slice e9 d.routes.length y9) ∧ RStrs x (.slice e9 d.routes.length y9) d.routes ∧ Below w.heap.size w x) (show _ from by
  have bd := Blk.new w 34 #[.string (bs d.call), .string (bs d.loc.disp), .string (bs d.loc.uri.scheme), .string (bs d.loc.uri.user), .string (bs d.loc.uri.host), .int .i64 d.loc.uri.port, .slice e1 d.loc.uri.ps.length y1, .slice e2 d.loc.uri.hs.length y2, .slice e3 d.loc.ps.length y3, .string (bs d.rem.disp), .string (bs d.rem.uri.scheme), .string (bs d.rem.uri.user), .string (bs d.rem.uri.host), .int .i64 d.rem.uri.port, .slice e4 d.rem.uri.ps.length y4, .slice e5 d.rem.uri.hs.length y5, .slice e6 d.rem.ps.length y6, .string (bs d.tgt.scheme), .string (bs d.tgt.user), .string (bs d.tgt.host), .int .i64 d.tgt.port, .slice e7 d.tgt.ps.length y7, .slice e8 d.tgt.hs.length y8, .slice e9 d.routes.length y9, .int .i64 d.lin, .int .i64 d.lout]
  have hA := (Below.refl w.heap.size w).alloc (ρ _) (.cells #[.string (bs d.call), .string (bs d.loc.disp), .string (bs d.loc.uri.scheme), .string (bs d.loc.uri.user), .string (bs d.loc.uri.host), .int .i64 d.loc.uri.port, .slice e1 d.loc.uri.ps.length y1, .slice e2 d.loc.uri.hs.length y2, .slice e3 d.loc.ps.length y3, .string (bs d.rem.disp), .string (bs d.rem.uri.scheme), .string (bs d.rem.uri.user), .string (bs d.rem.uri.host), .int .i64 d.rem.uri.port, .slice e4 d.rem.uri.ps.length y4, .slice e5 d.rem.uri.hs.length y5, .slice e6 d.rem.ps.length y6, .string (bs d.tgt.scheme), .string (bs d.tgt.user), .string (bs d.tgt.host), .int .i64 d.tgt.port, .slice e7 d.tgt.ps.length y7, .slice e8 d.tgt.hs.length y8, .slice e9 d.routes.length y9, .int .i64 d.lin, .int .i64 d.lout] 34)
  exact ⟨boxedCell bd 19, boxedCell bd 20, boxedCell bd 23, h9.below hA (ρ _), hA⟩) ?_
 clear h9
 rintro w0 ⟨c19, c20, c23, h9, hB0⟩
 rcases hcs with ⟨hr0, hT⟩ | ⟨x, r, hxr, hcs⟩
 ·have HT := κ (show whereD d = byV ⟨d.tgt.host, d.tgt.port, []⟩ from hT)
  rw [hr0] at c23
  have HBY := κ (byVR_c (bs d.tgt.host) d.tgt.port (.slice none 0 0) [] (by rw [size_bs]; exact hh) p0 p1 w0 (RPrms.emp w0))
  rw [us_bs] at HBY
  clear hT hr hpp hr0 h9
  go_wp2_with (go_at_call 77; refine HBY.out.mono ?_; rintro e w9 ⟨rfl, hC⟩)
  go_ret
  refine ⟨?_, hB0.trans (hC.mono hB0.size)⟩
  exact congrArg (fun x => Ending.returned (.string (bs x))) HT.out.symm
 ·have hxl := hr x (by rw [hxr]; exact List.mem_cons_self ..)
  have hpx := hpp x (by rw [hxr]; exact List.mem_cons_self ..)
  rw [hxr] at c23 h9
  have k1 : (0 : Int) < ((x :: r).length : Int) := by simp
  have k2 : (((x :: r).length : Int) == 0) = false := by simp; omega
  obtain ⟨ao, cap, e9', hm1, cc⟩ := h9.form
  injection e9' with e9' _ e10'
  subst e9' e10'
  obtain ⟨b, off, rfl, hb1, hc1⟩ := cc (by simp)
  have x0 := hc1 0 (by simp)
  rw [Nat.add_zero, List.getElem_cons_zero] at x0
  clear hr hpp hxr cc hc1 h9
  unfold maxLen at hm1
  have HP := κ (parseAR_c (bs x) (by rw [size_bs]; exact hxl) w0)
  rw [us_bs] at HP
  obtain ⟨S0, hS0⟩ : ∃ S0, S0 = bs x := ⟨_, rfl⟩
  rw [← hS0] at x0 HP
  generalize (x :: r).length = n at c23 k1 k2 hm1
  obtain ⟨R, hR⟩ : ∃ R, R = parseA x := ⟨_, rfl⟩
  rw [← hR] at HP hcs hpx
  clear hR hxl hS0
  obtain ⟨ra, rc⟩ := R
  dsimp only at HP hcs hpx
  unfold AdrPost at HP
  dsimp only at HP
  unfold sv at HP
  rcases hcs with ⟨hc, hT⟩ | ⟨hc, hT⟩
  ·have HT := κ hT
   have t1 : (rc != 0) = true := by simpa using hc
   clear hT hc hpx
   go_wp2_with (go_at_call 69; refine HP.out.mono ?_; rintro e w2 ⟨u1, u2, u3, rfl, hu1, hu2, hu3, _, _, _, hC⟩; obtain ⟨a1, f1, rfl⟩ := hu1.form'; obtain ⟨a2, f2, rfl⟩ := hu2.form'; obtain ⟨a3, f3, rfl⟩ := hu3.form'; have hB2 := hB0.trans (hC.mono hB0.size))
   go_ret
   exact ⟨congrArg (fun x => Ending.returned (.string (bs x))) HT.out.symm, hB2.alloc hB2.size _⟩
  ·obtain ⟨hh2, p2, p3⟩ := hpx hc
   subst hc
   have HT := κ (show whereD d = byV ⟨ra.uri.host, ra.uri.port, []⟩ from hT)
   clear hT hpx
   have HBY := κ (fun wx => byVR_c (bs ra.uri.host) ra.uri.port (.slice none 0 0) [] (by rw [size_bs]; exact hh2) p2 p3 wx (RPrms.emp wx))
   rw [us_bs] at HBY
   go_upto_region 6 with (first | (go_at_call 69; refine HP.out.mono ?_; rintro e w2 ⟨u1, u2, u3, rfl, hu1, hu2, hu3, _, _, _, hC⟩; obtain ⟨a1, f1, rfl⟩ := hu1.form'; obtain ⟨a2, f2, rfl⟩ := hu2.form'; obtain ⟨a3, f3, rfl⟩ := hu3.form'; have hB2 := hB0.trans (hC.mono hB0.size)) | ((with_reducible refine holdStore 26 rfl ?_); unfold Hold; refine wpList_storeNew (vs := #[.string (bs ra.disp), .string (bs ra.uri.scheme), .string (bs ra.uri.user), .string (bs ra.uri.host), .int .i64 ra.uri.port, .slice a1 ra.uri.ps.length f1, .slice a2 ra.uri.hs.length f2, .slice a3 ra.ps.length f3]) rfl rfl rfl rfl (by kernel_rfl) (by kernel_rfl) (by kernel_rfl) ?_))
   have ba := Blk.new w2 26 #[.string (bs ra.disp), .string (bs ra.uri.scheme), .string (bs ra.uri.user), .string (bs ra.uri.host), .int .i64 ra.uri.port, .slice a1 ra.uri.ps.length f1, .slice a2 ra.uri.hs.length f2, .slice a3 ra.ps.length f3]
   have hB3 := hB2.alloc hB2.size (.cells #[.string (bs ra.disp), .string (bs ra.uri.scheme), .string (bs ra.uri.user), .string (bs ra.uri.host), .int .i64 ra.uri.port, .slice a1 ra.uri.ps.length f1, .slice a2 ra.uri.hs.length f2, .slice a3 ra.ps.length f3] 26)
   obtain ⟨r0, r1, r2, r3, r4, r5, r6, r7, _, _, _, _, _, _, _, _, zR⟩ := blk_h8 ba
   go_wp2_with (go_at_call 77; refine (HBY.out _).mono ?_; rintro e w9 ⟨rfl, hC9⟩)
   go_ret
   refine ⟨?_, hB3.trans (hC9.mono hB3.size)⟩
   exact congrArg (fun x => Ending.returned (.string (bs x))) HT.out.symm
end Go.Proofs.YtipdiddjhimdcaaGreatDoor
