/-
  rosterref18.Begin.
-/
import Derived.Test.YtipdiddjhimdcaaGreatDoorB14
import Derived.Test.YtipdiddjhimdcaaGreatDoorB16
import Derived.Deep.RegionHeld3
namespace Go.Proofs.YtipdiddjhimdcaaGreatDoor
set_option linter.unusedSimpArgs false
set_option linter.unusedVariables false
open Go.RowKit Go.Sort


theorem rowFarC {w : World} {g k : Nat} {t : TypeId} {cs : Array Value} (h : Blk w k t cs) (hk : k ≠ g) (vs : Array Value) : Blk (w.setRow g vs) k t cs := (setRow_far w g vs k hk).trans h
theorem form1c {w : World} {v : Value} {L : List Prm} {p : Prm} (h : RPrms w v (L ++ [p])) : ∃ ao c, v = .slice ao (L.length + 1) c := by
  obtain ⟨ao, c, rfl⟩ := h.form'
  exact ⟨ao, c, by rw [List.length_append]; rfl⟩
theorem run_loadC {P : Program} {o : Oper} {a : Act} {w : World} {g : Nat} {t T : TypeId} {fs : Array Field} {vs : Array Value} {p : Operand}
    (ho : o.op = .load T p) (hp : a.eval p = .pointer (some ⟨g, 0, none⟩)) (hA : P.underlying T = some (.struct fs)) (hC : (P.info? T).map (·.size) = some vs.size)
    (hb : Blk w g t vs) : (execOp a.eval o).run P w = .ok (.value (.agg vs)) w := by
  have hl := loadVar_blk hA hC hb
  simp [execOp, ho, hp, Instr.loadAt, Instr.sureAddr, hl, Result.andThen]
theorem Prms.built2 (w : World) (base : Nat) (hb : base ≤ w.heap.size) : Prms (w.alloc (.cells #[] 85)) base (.slice (some ⟨w.heap.size, 0, none⟩) 0 0) [] :=
  ⟨rfl, .inr ⟨w.heap.size, 0, #[], rfl, hb, by unfold World.alloc; simp, Nat.le_refl _, Nat.zero_le _, rfl, rfl⟩⟩
section
variable {P : Program} {ops : Array Oper} {rest : List Oper} {o : Oper} {a : Act} {Q : Exit → Act → World → Prop}
/-- append of no parameters, or of some, to an empty row of the call's own -/
theorem wpList_cl2 {wE w : World} {base g : Nat} {t : TypeId} {L : List Prm} {s x : Operand} {vx : Value}
    (hgd : o.guard = none) (ho : o.op = .call { callee := .builtin .append, args := #[s, x], argTypes := #[t, t] })
    (ht : P.underlying t = some (.slice 85)) (hi : infoIs P 85 (.agg #[.string ⟨#[]⟩, .string ⟨#[]⟩, .bool false]) 3 40)
    (hx : a.eval x = vx) (hs : a.eval s = .slice (some ⟨g, 0, none⟩) 0 0) (hown : Prms w base (.slice (some ⟨g, 0, none⟩) 0 0) []) (hR : RPrms w vx L) (hB : Below base wE w) (hbase : base ≤ wE.heap.size) (hbd : L.length * 40 ≤ 140737488355328)
    (hk : ∀ v' w', Prms w' base v' L → Below base wE w' → wpList P ops Q rest (a.put o.dst v') w') :
    wpList P ops Q (o :: rest) a w := by
  cases L with
  | nil =>
    obtain ⟨i, hi0, hi1, hi2, hi3⟩ := info_parts hi
    obtain ⟨ao, c, rfl, _, _⟩ := hR.form
    have hrun : (Builtin.append_ #[t, t] o.type #[.slice (some ⟨g, 0, none⟩) 0 0, .slice ao 0 c]).run P w = .ok (.slice (some ⟨g, 0, none⟩) 0 0) w := by
      cases ao with
      | some ad =>
        have := run_append_room_cells (P := P) w t o.type 85 i ht hi0 g 0 0 0 ad 0 c [] (by simp) (fun j u h => by simp at h) (fun u h => by cases h) (Nat.le_refl _) (fun j h => by simp at h) (fun j h => by simp at h)
        rw [this]
        first | rfl | simp [World.setCells]
      | none =>
        simp [Builtin.append_, run_underlying ht, sizeOf, typeInfo, hi0, Builtin.lenOf, Builtin.firstCells, storeCells, Addr.add_lit]
    refine wpList_plain hgd fun K hK' => ?_
    unfold Oper.wp
    simp [execOp, ho, resolve, invoke, builtin, hs, hx, hrun, Result.andThen]
    exact hK' _ _ (hk _ _ hown hB)
  | cons p r =>
    refine wpList_clP hgd ho ht hi hx hs hR (by simp) hbd ?_
    intro v' w' h1 h2
    exact hk v' w' (ownsRow_weaken h1 (Nat.le_trans hbase hB.size)) (hB.trans (h2.mono (Nat.le_trans hbase hB.size)))
end

set_option maxRecDepth 100000 in
set_option maxHeartbeats 12800000 in
theorem beginR_c (rs : Array Value) (T : ByteArray) (r : Rq) (w : World) (hm : Ml w) (hr : RReq w (.agg rs) r) (hb : RqB r) (hT : T.size ≤ 4294967280) :
    Calls Tryz.prog 21 #[.agg rs, .string T] w fun e w' => ∃ xs : Array Value, e = .returned (.tuple #[.agg xs, .int .i64 (beginS r (us T)).2]) ∧ RDlg w' (.agg xs) (beginS r (us T)).1 ∧ Below w.heap.size w w' := by
  obtain ⟨c0, c1, c2, c3, c4, c5, c6, c7, c8, c9, c10, c11, c12, c13, c14, c15, e1, y1, e2, y2, e3, y3, e4, y4, e5, y5, e6, y6, e7, y7, e8, y8, ers, h1, h2, h3, h4, h5, h6, h7, h8⟩ := hr.lit
  injection ers with ers
  obtain ⟨⟨_, _, _, _, _, _, l1, l2, l3⟩, ⟨d1, d2, d3, d4, d5, d6, l4, l5, l6⟩, hbc, l7, lt, lf⟩ := hb
  obtain ⟨_, _, ec, hcm, _⟩ := h7.form
  unfold maxLen at hcm
  clear ec
  have HM := Lib.hid hm
  have HCK := Lib.hid (fun wx u1 u2 u3 h1 h2 h3 => checkAR_c (bs r.dst.disp) (bs r.dst.uri.scheme) (bs r.dst.uri.user) (bs r.dst.uri.host) r.dst.uri.port u1 u2 u3 r.dst.uri.ps r.dst.uri.hs (r.dst.ps ++ [(⟨nTag, us T, true⟩ : Prm)]) (by rw [size_bs]; exact d1) (by rw [size_bs]; exact d2) (by rw [size_bs]; exact d3) wx h1 h2 h3 d4 d5 (by
    intro p hp
    rcases List.mem_append.1 hp with h | h
    · exact d6 p h
    · rw [List.mem_singleton.1 h]; exact ⟨by show nTag.length ≤ _; decide, by dsimp only; rw [length_us]; exact hT⟩))
  rw [us_bs, us_bs, us_bs, us_bs] at HCK
  rw [show checkA (⟨r.dst.disp, ⟨r.dst.uri.scheme, r.dst.uri.user, r.dst.uri.host, r.dst.uri.port, r.dst.uri.ps, r.dst.uri.hs⟩, r.dst.ps ++ [(⟨nTag, us T, true⟩ : Prm)]⟩ : Adr) = checkA (taggedS r.dst (us T)) from rfl] at HCK
  have hB0 : Below w.heap.size w ((w.alloc (.cells rs 32)).alloc (.cells #[(.string ⟨#[]⟩), (.string ⟨#[]⟩), (.string ⟨#[]⟩), (.string ⟨#[]⟩), (.string ⟨#[]⟩), (.int .i64 0), (.slice none 0 0), (.slice none 0 0), (.slice none 0 0), (.string ⟨#[]⟩), (.string ⟨#[]⟩), (.string ⟨#[]⟩), (.string ⟨#[]⟩), (.int .i64 0), (.slice none 0 0), (.slice none 0 0), (.slice none 0 0), (.string ⟨#[]⟩), (.string ⟨#[]⟩), (.string ⟨#[]⟩), (.int .i64 0), (.slice none 0 0), (.slice none 0 0), (.slice none 0 0), (.int .i64 0), (.int .i64 0)] 34)) := ((Below.refl _ _).alloc (Nat.le_refl _) _).alloc (by rw [World.size_alloc]; omega) _
  have br0 : Blk ((w.alloc (.cells rs 32)).alloc (.cells #[(.string ⟨#[]⟩), (.string ⟨#[]⟩), (.string ⟨#[]⟩), (.string ⟨#[]⟩), (.string ⟨#[]⟩), (.int .i64 0), (.slice none 0 0), (.slice none 0 0), (.slice none 0 0), (.string ⟨#[]⟩), (.string ⟨#[]⟩), (.string ⟨#[]⟩), (.string ⟨#[]⟩), (.int .i64 0), (.slice none 0 0), (.slice none 0 0), (.slice none 0 0), (.string ⟨#[]⟩), (.string ⟨#[]⟩), (.string ⟨#[]⟩), (.int .i64 0), (.slice none 0 0), (.slice none 0 0), (.slice none 0 0), (.int .i64 0), (.int .i64 0)] 34)) w.heap.size 32 rs := (Blk.new w 32 rs).alloc _
  have bz0 : Blk ((w.alloc (.cells rs 32)).alloc (.cells #[(.string ⟨#[]⟩), (.string ⟨#[]⟩), (.string ⟨#[]⟩), (.string ⟨#[]⟩), (.string ⟨#[]⟩), (.int .i64 0), (.slice none 0 0), (.slice none 0 0), (.slice none 0 0), (.string ⟨#[]⟩), (.string ⟨#[]⟩), (.string ⟨#[]⟩), (.string ⟨#[]⟩), (.int .i64 0), (.slice none 0 0), (.slice none 0 0), (.slice none 0 0), (.string ⟨#[]⟩), (.string ⟨#[]⟩), (.string ⟨#[]⟩), (.int .i64 0), (.slice none 0 0), (.slice none 0 0), (.slice none 0 0), (.int .i64 0), (.int .i64 0)] 34)) (w.heap.size + 1) 34 #[(.string ⟨#[]⟩), (.string ⟨#[]⟩), (.string ⟨#[]⟩), (.string ⟨#[]⟩), (.string ⟨#[]⟩), (.int .i64 0), (.slice none 0 0), (.slice none 0 0), (.slice none 0 0), (.string ⟨#[]⟩), (.string ⟨#[]⟩), (.string ⟨#[]⟩), (.string ⟨#[]⟩), (.int .i64 0), (.slice none 0 0), (.slice none 0 0), (.slice none 0 0), (.string ⟨#[]⟩), (.string ⟨#[]⟩), (.string ⟨#[]⟩), (.int .i64 0), (.slice none 0 0), (.slice none 0 0), (.slice none 0 0), (.int .i64 0), (.int .i64 0)] := by
    have := Blk.new (w.alloc (.cells rs 32)) 34 #[(.string ⟨#[]⟩), (.string ⟨#[]⟩), (.string ⟨#[]⟩), (.string ⟨#[]⟩), (.string ⟨#[]⟩), (.int .i64 0), (.slice none 0 0), (.slice none 0 0), (.slice none 0 0), (.string ⟨#[]⟩), (.string ⟨#[]⟩), (.string ⟨#[]⟩), (.string ⟨#[]⟩), (.int .i64 0), (.slice none 0 0), (.slice none 0 0), (.slice none 0 0), (.string ⟨#[]⟩), (.string ⟨#[]⟩), (.string ⟨#[]⟩), (.int .i64 0), (.slice none 0 0), (.slice none 0 0), (.slice none 0 0), (.int .i64 0), (.int .i64 0)]
    rwa [World.size_alloc] at this
  obtain ⟨w0, hw0⟩ : ∃ w0, w0 = ((w.alloc (.cells rs 32)).alloc (.cells #[(.string ⟨#[]⟩), (.string ⟨#[]⟩), (.string ⟨#[]⟩), (.string ⟨#[]⟩), (.string ⟨#[]⟩), (.int .i64 0), (.slice none 0 0), (.slice none 0 0), (.slice none 0 0), (.string ⟨#[]⟩), (.string ⟨#[]⟩), (.string ⟨#[]⟩), (.string ⟨#[]⟩), (.int .i64 0), (.slice none 0 0), (.slice none 0 0), (.slice none 0 0), (.string ⟨#[]⟩), (.string ⟨#[]⟩), (.string ⟨#[]⟩), (.int .i64 0), (.slice none 0 0), (.slice none 0 0), (.slice none 0 0), (.int .i64 0), (.int .i64 0)] 34)) := ⟨_, rfl⟩
  rw [← hw0] at hB0 br0 bz0
  have HW0 := Lib.hid hw0
  have hB3 : Below w.heap.size w (w0.alloc (.cells #[(.string ⟨#[]⟩), (.string ⟨#[]⟩), (.string ⟨#[]⟩), (.string ⟨#[]⟩), (.string ⟨#[]⟩), (.int .i64 0), (.slice none 0 0), (.slice none 0 0), (.slice none 0 0), (.string ⟨#[]⟩), (.string ⟨#[]⟩), (.string ⟨#[]⟩), (.string ⟨#[]⟩), (.int .i64 0), (.slice none 0 0), (.slice none 0 0), (.slice none 0 0), (.string ⟨#[]⟩), (.string ⟨#[]⟩), (.string ⟨#[]⟩), (.int .i64 0), (.slice none 0 0), (.slice none 0 0), (.slice none 0 0), (.int .i64 0), (.int .i64 0)] 34)) := hB0.alloc hB0.size _
  have br3 := br0.alloc (.cells #[(.string ⟨#[]⟩), (.string ⟨#[]⟩), (.string ⟨#[]⟩), (.string ⟨#[]⟩), (.string ⟨#[]⟩), (.int .i64 0), (.slice none 0 0), (.slice none 0 0), (.slice none 0 0), (.string ⟨#[]⟩), (.string ⟨#[]⟩), (.string ⟨#[]⟩), (.string ⟨#[]⟩), (.int .i64 0), (.slice none 0 0), (.slice none 0 0), (.slice none 0 0), (.string ⟨#[]⟩), (.string ⟨#[]⟩), (.string ⟨#[]⟩), (.int .i64 0), (.slice none 0 0), (.slice none 0 0), (.slice none 0 0), (.int .i64 0), (.int .i64 0)] 34)
  have bz3 := bz0.alloc (.cells #[(.string ⟨#[]⟩), (.string ⟨#[]⟩), (.string ⟨#[]⟩), (.string ⟨#[]⟩), (.string ⟨#[]⟩), (.int .i64 0), (.slice none 0 0), (.slice none 0 0), (.slice none 0 0), (.string ⟨#[]⟩), (.string ⟨#[]⟩), (.string ⟨#[]⟩), (.string ⟨#[]⟩), (.int .i64 0), (.slice none 0 0), (.slice none 0 0), (.slice none 0 0), (.string ⟨#[]⟩), (.string ⟨#[]⟩), (.string ⟨#[]⟩), (.int .i64 0), (.slice none 0 0), (.slice none 0 0), (.slice none 0 0), (.int .i64 0), (.int .i64 0)] 34)
  have bn3 := Blk.new w0 34 #[(.string ⟨#[]⟩), (.string ⟨#[]⟩), (.string ⟨#[]⟩), (.string ⟨#[]⟩), (.string ⟨#[]⟩), (.int .i64 0), (.slice none 0 0), (.slice none 0 0), (.slice none 0 0), (.string ⟨#[]⟩), (.string ⟨#[]⟩), (.string ⟨#[]⟩), (.string ⟨#[]⟩), (.int .i64 0), (.slice none 0 0), (.slice none 0 0), (.slice none 0 0), (.string ⟨#[]⟩), (.string ⟨#[]⟩), (.string ⟨#[]⟩), (.int .i64 0), (.slice none 0 0), (.slice none 0 0), (.slice none 0 0), (.int .i64 0), (.int .i64 0)]
  obtain ⟨gn, hgn⟩ : ∃ x, x = w0.heap.size := ⟨_, rfl⟩
  obtain ⟨w3, hw3⟩ : ∃ x, x = w0.alloc (.cells #[(.string ⟨#[]⟩), (.string ⟨#[]⟩), (.string ⟨#[]⟩), (.string ⟨#[]⟩), (.string ⟨#[]⟩), (.int .i64 0), (.slice none 0 0), (.slice none 0 0), (.slice none 0 0), (.string ⟨#[]⟩), (.string ⟨#[]⟩), (.string ⟨#[]⟩), (.string ⟨#[]⟩), (.int .i64 0), (.slice none 0 0), (.slice none 0 0), (.slice none 0 0), (.string ⟨#[]⟩), (.string ⟨#[]⟩), (.string ⟨#[]⟩), (.int .i64 0), (.slice none 0 0), (.slice none 0 0), (.slice none 0 0), (.int .i64 0), (.int .i64 0)] 34) := ⟨_, rfl⟩
  rw [← hw3] at hB3 br3 bz3 bn3
  rw [← hgn] at bn3
  have HW3 := Lib.hid hw3
  have HGN := Lib.hid hgn
  have hn1 : gn ≠ w.heap.size + 1 := by have := bz0.lt; omega
  have HX := Lib.hid (fun (wx : World) (h : Below w3.heap.size w3 wx) => (show wx.cell? ⟨w.heap.size, 9, none⟩ = some (.string (bs r.fr.disp)) ∧ wx.cell? ⟨w.heap.size, 10, none⟩ = some (.string (bs r.fr.uri.scheme)) ∧ wx.cell? ⟨w.heap.size, 11, none⟩ = some (.string (bs r.fr.uri.user)) ∧ wx.cell? ⟨w.heap.size, 12, none⟩ = some (.string (bs r.fr.uri.host)) ∧ wx.cell? ⟨w.heap.size, 13, none⟩ = some (.int .i64 r.fr.uri.port) ∧ wx.cell? ⟨w.heap.size, 14, none⟩ = some (.slice e1 r.fr.uri.ps.length y1) ∧ wx.cell? ⟨w.heap.size, 15, none⟩ = some (.slice e2 r.fr.uri.hs.length y2) ∧ wx.cell? ⟨w.heap.size, 16, none⟩ = some (.slice e3 r.fr.ps.length y3) ∧ wx.cell? ⟨w.heap.size, 17, none⟩ = some (.string (bs r.dst.disp)) ∧ wx.cell? ⟨w.heap.size, 18, none⟩ = some (.string (bs r.dst.uri.scheme)) ∧ wx.cell? ⟨w.heap.size, 19, none⟩ = some (.string (bs r.dst.uri.user)) ∧ wx.cell? ⟨w.heap.size, 20, none⟩ = some (.string (bs r.dst.uri.host)) ∧ wx.cell? ⟨w.heap.size, 21, none⟩ = some (.int .i64 r.dst.uri.port) ∧ wx.cell? ⟨w.heap.size, 22, none⟩ = some (.slice e4 r.dst.uri.ps.length y4) ∧ wx.cell? ⟨w.heap.size, 23, none⟩ = some (.slice e5 r.dst.uri.hs.length y5) ∧ wx.cell? ⟨w.heap.size, 24, none⟩ = some (.slice e6 r.dst.ps.length y6) ∧ wx.cell? ⟨w.heap.size, 25, none⟩ = some (.string (bs r.fromT)) ∧ wx.cell? ⟨w.heap.size, 26, none⟩ = some (.string (bs r.toT)) ∧ wx.cell? ⟨w.heap.size, 27, none⟩ = some (.string (bs r.call)) ∧ wx.cell? ⟨w.heap.size, 28, none⟩ = some (.int .i64 r.seq) ∧ wx.cell? ⟨w.heap.size, 32, none⟩ = some (.slice e7 r.contact.length y7) ∧ wx.cell? ⟨w.heap.size, 33, none⟩ = some (.slice e8 r.routes.length y8) from by
    have b := br3.call h
    rw [ers] at b
    exact ⟨boxedCell b 9, boxedCell b 10, boxedCell b 11, boxedCell b 12, boxedCell b 13, boxedCell b 14, boxedCell b 15, boxedCell b 16, boxedCell b 17, boxedCell b 18, boxedCell b 19, boxedCell b 20, boxedCell b 21, boxedCell b 22, boxedCell b 23, boxedCell b 24, boxedCell b 25, boxedCell b 26, boxedCell b 27, boxedCell b 28, boxedCell b 32, boxedCell b 33⟩))
  have HBR := Lib.hid br3
  have HBZ := Lib.hid bz3
  have HBN := Lib.hid bn3
  have HB := Lib.hid hB3
  have hZ : Below w3.heap.size w3 w3 := Below.refl _ _
  obtain ⟨p9, p10, p11, p12, p13, p14, p15, p16, p17, p18, p19, p20, p21, p22, p23, p24, p25, p26, p27, p28, p32, p33⟩ := HX.out _ hZ
  have hcs := beginS_cases r (us T)
  obtain ⟨C, hC⟩ : ∃ C, C = checkA (taggedS r.dst (us T)) := ⟨_, rfl⟩
  rw [← hC] at HCK hcs
  clear hC
  obtain ⟨TT, hTT⟩ : ∃ x, x = bs r.toT := ⟨_, rfl⟩
  obtain ⟨FT, hFT⟩ : ∃ x, x = bs r.fromT := ⟨_, rfl⟩
  have ett : r.toT = [] ↔ TT.size = 0 := by rw [hTT, size_bs, List.length_eq_zero_iff]
  have eft : r.fromT = [] ↔ FT.size = 0 := by rw [hFT, size_bs, List.length_eq_zero_iff]
  simp only [← hTT] at p26 HX
  simp only [← hFT] at p25 HX
  simp only [ne_eq, ett, eft] at hcs
  have hT2 : T.size ≤ 9223372036854775807 := by omega
  have HTK := Lib.hid (fun wx => tokenR_c T hT2 wx)
  have H7 := Lib.hid h7
  have HRS := Lib.hid (And.intro h1 (And.intro h2 (And.intro h3 (And.intro h4 (And.intro h5 (And.intro h6 h8))))))
  clear hw0 hB0 br0 bz0 hw3 hgn hB3 br3 bz3 bn3 ers h1 h2 h3 h4 h5 h6 h7 h8 l1 l2 l3 l4 l5 l7 d1 d2 d3 d4 d5 d6 hm hr hTT hFT ett eft lt lf hT hT2
  go_enter Tryz.func21, Tryz.ntmps21
  go_upto_region 1 with fail
  rw [← HW0.out]
  go_wp2_with (with_reducible refine holdStore 34 rfl ?_)
  unfold Hold
  refine wpList_storeNew (vs := #[(.string ⟨#[]⟩), (.string ⟨#[]⟩), (.string ⟨#[]⟩), (.string ⟨#[]⟩), (.string ⟨#[]⟩), (.int .i64 0), (.slice none 0 0), (.slice none 0 0), (.slice none 0 0), (.string ⟨#[]⟩), (.string ⟨#[]⟩), (.string ⟨#[]⟩), (.string ⟨#[]⟩), (.int .i64 0), (.slice none 0 0), (.slice none 0 0), (.slice none 0 0), (.string ⟨#[]⟩), (.string ⟨#[]⟩), (.string ⟨#[]⟩), (.int .i64 0), (.slice none 0 0), (.slice none 0 0), (.slice none 0 0), (.int .i64 0), (.int .i64 0)]) rfl rfl rfl rfl (by kernel_rfl) (by kernel_rfl) (by kernel_rfl) ?_
  rw [← HW3.out, ← HGN.out]
  rcases hcs with ⟨ht, hR⟩ | ⟨ht, hf, hR⟩ | ⟨ht, hf, hk, hR⟩ | ⟨ht, hf, hk, hl, hR⟩ | ⟨ht, hf, hk, c, hc, hR⟩
  all_goals have HR := Lib.hid hR
  all_goals clear hR
  all_goals try (rw [hk] at HTK)
  all_goals try clear hk
  all_goals try (have tl : ((r.contact.length : Int) == 1) = false := by simp; omega)
  all_goals try clear hl
  all_goals first | (have pE := ne_empty ht; have pF := isEmpty_f ht) | (obtain rfl := eq_empty ht)
  all_goals try (first | (have qE := ne_empty hf; have qF := isEmpty_f hf) | (obtain rfl := eq_empty hf))
  all_goals clear ht
  all_goals try clear hf
  rotate_right
  · have tl : r.contact.length = 1 := by rw [hc]; rfl
    obtain ⟨hbc1, hbc2⟩ := hbc c (by rw [hc]; exact List.mem_singleton.2 rfl)
    rw [hc] at H7
    rw [tl] at p32 HX
    clear tl hbc hbc1 hbc2
    obtain ⟨ao2, cap2, e2, _, c2⟩ := H7.out.form
    obtain ⟨b, off, eb, hbl, hcc⟩ := c2 (by simp)
    obtain ⟨_, k1, k2, k3, k4, s1, s2, _, k5, k6, _, q1, q2, _⟩ := hcc 0 (by simp)
    simp only [Nat.zero_mul, Nat.add_zero, List.getElem_cons_zero] at k1 k2 k3 k4 k5 k6 q1 q2
    injection e2 with e2 _ _
    rw [eb] at e2
    subst e2
    clear eb hcc c2
    obtain ⟨n1, m1, rfl, _, _⟩ := q1.form
    obtain ⟨n2, m2, rfl, _, _⟩ := q2.form
    unfold sv at k1 k2 k3
    have HQ := Lib.hid (And.intro q1 q2)
    have HK := Lib.hid (fun (wx : World) (h : Below w3.heap.size w3 wx) => (show wx.cell? ⟨b, off + 1, none⟩ = some (.string (bs c.uri.scheme)) ∧ wx.cell? ⟨b, off + 2, none⟩ = some (.string (bs c.uri.user)) ∧ wx.cell? ⟨b, off + 3, none⟩ = some (.string (bs c.uri.host)) ∧ wx.cell? ⟨b, off + 4, none⟩ = some (.int .i64 c.uri.port) ∧ wx.cell? ⟨b, off + 5, none⟩ = some (.slice n1 c.uri.ps.length m1) ∧ wx.cell? ⟨b, off + 6, none⟩ = some (.slice n2 c.uri.hs.length m2) from by
      have hcw : ∀ o, wx.cell? ⟨b, o, none⟩ = w.cell? ⟨b, o, none⟩ := fun o => World.cell?_of_block (w := w) (a := ⟨b, o, none⟩) ((HB.out.trans (h.mono HB.out.size)).block b hbl)
      rw [hcw, hcw, hcw, hcw, hcw, hcw]
      exact ⟨k1, k2, k3, k4, k5, k6⟩))
    clear k1 k2 k3 k4 k5 k6 q1 q2
    go_wp2_with (first | (go_at_call 65; refine (HTK.out _).mono ?_; rintro e wx ⟨rfl, rfl⟩) | (with_reducible refine holdStore 26 rfl ?_))
    unfold Hold
    refine wpList_storeNew (vs := #[.string (bs r.dst.disp), .string (bs r.dst.uri.scheme), .string (bs r.dst.uri.user), .string (bs r.dst.uri.host), .int .i64 r.dst.uri.port, .slice e4 r.dst.uri.ps.length y4, .slice e5 r.dst.uri.hs.length y5, .slice e6 r.dst.ps.length y6]) rfl rfl rfl rfl (by kernel_rfl) (by kernel_rfl) (by kernel_rfl) ?_
    have hB4 : Below w3.heap.size w3 (w3.alloc (.cells #[.string (bs r.dst.disp), .string (bs r.dst.uri.scheme), .string (bs r.dst.uri.user), .string (bs r.dst.uri.host), .int .i64 r.dst.uri.port, .slice e4 r.dst.uri.ps.length y4, .slice e5 r.dst.uri.hs.length y5, .slice e6 r.dst.ps.length y6] 26)) := hZ.alloc (Nat.le_refl _) _
    have bl4 := Blk.new w3 26 #[.string (bs r.dst.disp), .string (bs r.dst.uri.scheme), .string (bs r.dst.uri.user), .string (bs r.dst.uri.host), .int .i64 r.dst.uri.port, .slice e4 r.dst.uri.ps.length y4, .slice e5 r.dst.uri.hs.length y5, .slice e6 r.dst.ps.length y6]
    obtain ⟨gl, hgl⟩ : ∃ x, x = w3.heap.size := ⟨_, rfl⟩
    obtain ⟨w4, hw4⟩ : ∃ x, x = w3.alloc (.cells #[.string (bs r.dst.disp), .string (bs r.dst.uri.scheme), .string (bs r.dst.uri.user), .string (bs r.dst.uri.host), .int .i64 r.dst.uri.port, .slice e4 r.dst.uri.ps.length y4, .slice e5 r.dst.uri.hs.length y5, .slice e6 r.dst.ps.length y6] 26) := ⟨_, rfl⟩
    rw [← hw4] at hB4 bl4
    rw [← hgl] at bl4
    rw [← hw4, ← hgl]
    have hl1 : w3.heap.size ≤ gl := by omega
    have hln : gl ≠ w.heap.size + 1 := by have := HBZ.out.lt; omega
    have hlb : gl + 1 = w4.heap.size := by rw [hw4, World.size_alloc, hgl]
    clear hw4 hgl hZ p9 p10 p11 p12 p13 p14 p15 p16 p17 p18 p19 p20 p21 p22 p23 p24 p25 p26 p27 p28 p32 p33
    have bu4 := Prms.built2 w4 w4.heap.size (Nat.le_refl _)
    have hB5 : Below w4.heap.size w4 (w4.alloc (.cells #[] 85)) := (Below.refl _ _).alloc (Nat.le_refl _) _
    have hR5 : RPrms (w4.alloc (.cells #[] 85)) (.slice e6 r.dst.ps.length y6) r.dst.ps := HRS.out.2.2.2.2.2.1.below (HB.out.trans ((hB4.alloc hB4.size _).mono HB.out.size)) (Nat.le_refl _)
    have hX5 := HX.out _ (hB4.alloc hB4.size (.cells #[] 85))
    obtain ⟨p9, p10, p11, p12, p13, p14, p15, p16, p17, p18, p19, p20, p21, p22, p23, p24, p25, p26, p27, p28, p32, p33⟩ := hX5
    have HBL4 := Lib.hid bl4
    have HB4 := Lib.hid hB4
    have hlb2 : w4.heap.size ≤ w4.heap.size := Nat.le_refl _
    clear bl4
    go_upto_region 7 with fail
    go_upto_region 8 with (first | (at_builtin; refine wpList_cl2 rfl rfl Tryz.underlying22 infoP rfl rfl bu4 hR5 hB5 hlb2 (by omega) ?_; intro v5 w5 hP5 hB5) | (at_builtin; refine wpList_appP1 ⟨nTag, us T, true⟩ rfl rfl rfl rfl rfl Tryz.underlying22 infoP rfl rfl hP5 hB5 hlb2 ?_ ?_; (focus omega); intro v6 w6 hP6 hB6; obtain ⟨a3, c3, rfl⟩ := form1c hP6.read; have bl := HBL4.out.call hB6; obtain ⟨r0, r1, r2, r3, r4, r5, r6, r7, g0, g1, g2, g3, g4, g5, g6, g7, zR⟩ := blkg8 bl))
    have hF6 := hP6.fresh
    have R3 := hP6.read.set hF6 (p := ⟨gl, 7, none⟩) (show gl < w4.heap.size by omega) (.slice a3 (r.dst.ps.length + 1) c3)
    have bl7 : Blk _ gl 26 #[.string (bs r.dst.disp), .string (bs r.dst.uri.scheme), .string (bs r.dst.uri.user), .string (bs r.dst.uri.host), .int .i64 r.dst.uri.port, .slice e4 r.dst.uri.ps.length y4, .slice e5 r.dst.uri.hs.length y5, .slice a3 (r.dst.ps.length + 1) c3] := bl.set_ 7 (.slice a3 (r.dst.ps.length + 1) c3)
    have hB7 := (HB4.out.trans (hB6.mono HB4.out.size)).setCell (p := ⟨gl, 7, none⟩) hl1 (.slice a3 (r.dst.ps.length + 1) c3)
    obtain ⟨w7, hw7⟩ : ∃ x, x = w6.setCell ⟨gl, 7, none⟩ (.slice a3 (r.dst.ps.length + 1) c3) := ⟨_, rfl⟩
    rw [← hw7] at R3 bl7 hB7
    (try rw [← hw7])
    clear hw7 hP6 hB6 hF6 bl zR r0 r1 r2 r3 r4 r5 r6 r7 g0 g1 g2 g3 g4 g5 g6 g7 hP5 hB5 hR5 bu4 p9 p10 p11 p12 p13 p14 p15 p16 p17 p18 p19 p20 p21 p22 p23 p24 p25 p26 p27 p28 p32 p33
    have hW7 := HB.out.trans (hB7.mono HB.out.size)
    have R1 := HRS.out.2.2.2.1.below hW7 (Nat.le_refl _)
    have R2 := HRS.out.2.2.2.2.1.below hW7 (Nat.le_refl _)
    obtain ⟨r0, r1, r2, r3, r4, r5, r6, r7, _, _, _, _, _, _, _, _, _⟩ := blkg8 bl7
    have HR7 := Lib.hid (And.intro R1 (And.intro R2 R3))
    have HBL7 := Lib.hid bl7
    have HB7 := Lib.hid hB7
    clear R1 R2 R3 bl7 hB7 hW7
    rcases HR.out with ⟨hc0, hR⟩ | ⟨hc0, hR⟩
    all_goals clear HR
    all_goals have HR := Lib.hid hR
    all_goals clear hR
    · have t1 : (C != 0) = true := by simpa using hc0
      clear hc0
      go_upto_region 9 with (go_at_call 66; refine (HCK.out _ _ _ _ HR7.out.1 HR7.out.2.1 HR7.out.2.2).mono ?_; rintro e z5 ⟨rfl, hC5⟩)
      have hB9 := HB7.out.trans (hC5.mono HB7.out.size)
      have HS := Lib.hid (fun (wx : World) (h : Below z5.heap.size z5 wx) => (show Blk wx gn 34 #[(.string ⟨#[]⟩), (.string ⟨#[]⟩), (.string ⟨#[]⟩), (.string ⟨#[]⟩), (.string ⟨#[]⟩), (.int .i64 0), (.slice none 0 0), (.slice none 0 0), (.slice none 0 0), (.string ⟨#[]⟩), (.string ⟨#[]⟩), (.string ⟨#[]⟩), (.string ⟨#[]⟩), (.int .i64 0), (.slice none 0 0), (.slice none 0 0), (.slice none 0 0), (.string ⟨#[]⟩), (.string ⟨#[]⟩), (.string ⟨#[]⟩), (.int .i64 0), (.slice none 0 0), (.slice none 0 0), (.slice none 0 0), (.int .i64 0), (.int .i64 0)] ∧ Blk wx gl 26 #[.string (bs r.dst.disp), .string (bs r.dst.uri.scheme), .string (bs r.dst.uri.user), .string (bs r.dst.uri.host), .int .i64 r.dst.uri.port, .slice e4 r.dst.uri.ps.length y4, .slice e5 r.dst.uri.hs.length y5, .slice a3 (r.dst.ps.length + 1) c3] ∧ Blk wx (w.heap.size + 1) 34 #[(.string ⟨#[]⟩), (.string ⟨#[]⟩), (.string ⟨#[]⟩), (.string ⟨#[]⟩), (.string ⟨#[]⟩), (.int .i64 0), (.slice none 0 0), (.slice none 0 0), (.slice none 0 0), (.string ⟨#[]⟩), (.string ⟨#[]⟩), (.string ⟨#[]⟩), (.string ⟨#[]⟩), (.int .i64 0), (.slice none 0 0), (.slice none 0 0), (.slice none 0 0), (.string ⟨#[]⟩), (.string ⟨#[]⟩), (.string ⟨#[]⟩), (.int .i64 0), (.slice none 0 0), (.slice none 0 0), (.slice none 0 0), (.int .i64 0), (.int .i64 0)] from ⟨HBN.out.call (hB9.trans (h.mono hB9.size)), (HBL7.out.call hC5).call h, HBZ.out.call (hB9.trans (h.mono hB9.size))⟩))
      have HR5 := Lib.hid (fun (wx : World) (h : Below z5.heap.size z5 wx) => (show RPrms wx _ _ ∧ RPrms wx _ _ ∧ RPrms wx _ _ from ⟨(HR7.out.1.below hC5 (Nat.le_refl _)).below h (Nat.le_refl _), (HR7.out.2.1.below hC5 (Nat.le_refl _)).below h (Nat.le_refl _), (HR7.out.2.2.below hC5 (Nat.le_refl _)).below h (Nat.le_refl _)⟩))
      have hZ : Below z5.heap.size z5 z5 := Below.refl _ _
      refine wp_region_held_drew (S := fun wx => Blk wx gn 34 #[(.string ⟨#[]⟩), (.string ⟨#[]⟩), (.string ⟨#[]⟩), (.string ⟨#[]⟩), (.string ⟨#[]⟩), (.int .i64 0), (.slice none 0 0), (.slice none 0 0), (.slice none 0 0), (.string ⟨#[]⟩), (.string ⟨#[]⟩), (.string ⟨#[]⟩), (.string ⟨#[]⟩), (.int .i64 0), (.slice none 0 0), (.slice none 0 0), (.slice none 0 0), (.string ⟨#[]⟩), (.string ⟨#[]⟩), (.string ⟨#[]⟩), (.int .i64 0), (.slice none 0 0), (.slice none 0 0), (.slice none 0 0), (.int .i64 0), (.int .i64 0)] ∧ Blk wx gl 26 #[.string (bs r.dst.disp), .string (bs r.dst.uri.scheme), .string (bs r.dst.uri.user), .string (bs r.dst.uri.host), .int .i64 r.dst.uri.port, .slice e4 r.dst.uri.ps.length y4, .slice e5 r.dst.uri.hs.length y5, .slice a3 (r.dst.ps.length + 1) c3] ∧ Blk wx (w.heap.size + 1) 34 #[(.string ⟨#[]⟩), (.string ⟨#[]⟩), (.string ⟨#[]⟩), (.string ⟨#[]⟩), (.string ⟨#[]⟩), (.int .i64 0), (.slice none 0 0), (.slice none 0 0), (.slice none 0 0), (.string ⟨#[]⟩), (.string ⟨#[]⟩), (.string ⟨#[]⟩), (.string ⟨#[]⟩), (.int .i64 0), (.slice none 0 0), (.slice none 0 0), (.slice none 0 0), (.string ⟨#[]⟩), (.string ⟨#[]⟩), (.string ⟨#[]⟩), (.int .i64 0), (.slice none 0 0), (.slice none 0 0), (.slice none 0 0), (.int .i64 0), (.int .i64 0)]) (by kernel_rfl) (HS.out _ (zDrew hZ)) (fun hHeld => ?_)
      refine wpAnyH_take (i := 0) (v := .agg #[(.string ⟨#[]⟩), (.string ⟨#[]⟩), (.string ⟨#[]⟩), (.string ⟨#[]⟩), (.string ⟨#[]⟩), (.int .i64 0), (.slice none 0 0), (.slice none 0 0), (.slice none 0 0), (.string ⟨#[]⟩), (.string ⟨#[]⟩), (.string ⟨#[]⟩), (.string ⟨#[]⟩), (.int .i64 0), (.slice none 0 0), (.slice none 0 0), (.slice none 0 0), (.string ⟨#[]⟩), (.string ⟨#[]⟩), (.string ⟨#[]⟩), (.int .i64 0), (.slice none 0 0), (.slice none 0 0), (.slice none 0 0), (.int .i64 0), (.int .i64 0)]) rfl (by kernel_rfl) (by kernel_rfl) (by kernel_rfl) (fun _ _ _ h => h) (Or.inl ⟨by rfl, ?_⟩) (by assumption) ?_
      focus (intro wx hSw; refine run_loadC rfl ?_ Tryz.underlying34 ?_ hSw.1; (focus rfl); (focus kernel_rfl))
      try simp only [Act.put, List.getElem_toArray, List.getElem_cons_zero, List.getElem_cons_succ, List.setIfInBounds_toArray, List.set_cons_zero, List.set_cons_succ]
      refine wpAnyH_take (i := 1) (v := .agg #[.string (bs r.dst.disp), .string (bs r.dst.uri.scheme), .string (bs r.dst.uri.user), .string (bs r.dst.uri.host), .int .i64 r.dst.uri.port, .slice e4 r.dst.uri.ps.length y4, .slice e5 r.dst.uri.hs.length y5, .slice a3 (r.dst.ps.length + 1) c3]) rfl (by kernel_rfl) (by kernel_rfl) (by kernel_rfl) (fun _ _ _ h => h) (Or.inl ⟨by rfl, ?_⟩) (by assumption) ?_
      focus (intro wx hSw; refine run_loadC rfl ?_ Tryz.underlying26 ?_ hSw.2.1; (focus rfl); (focus kernel_rfl))
      try simp only [Act.put, List.getElem_toArray, List.getElem_cons_zero, List.getElem_cons_succ, List.setIfInBounds_toArray, List.set_cons_zero, List.set_cons_succ]
      refine wpAnyH_ready (rs := [2]) (by kernel_rfl) (by simp) ?_
      refine AllReadyH.cons rfl (fun K hK => ?_) ?_
      ·
        go_simp
        go_at_call 66
        refine (HCK.out _ _ _ _ (HR5.out _ (by first | exact hZ | exact zDrew hZ)).1 (HR5.out _ (by first | exact hZ | exact zDrew hZ)).2.1 (HR5.out _ (by first | exact hZ | exact zDrew hZ)).2.2).mono ?_
        rintro e z6 ⟨rfl, hC⟩
        have hZ' : Below z5.heap.size z5 z6 := by first | exact zUp hZ hZ.size hC | exact zUp (zDrew hZ) (zDrew hZ).size hC
        clear hZ
        have hZ := hZ'
        clear hZ' hC
        (try dsimp only)
        refine hK.out _ _ ?_ (fun hHeld => ?_)
        focus ((try dsimp only); first | exact HS.out _ hZ | exact HS.out _ (zDrew hZ) | exact ⟨rowFarC (HS.out _ (by first | exact hZ | exact zDrew hZ)).1 hn1 _, rowFarC (HS.out _ (by first | exact hZ | exact zDrew hZ)).2.1 hln _, Blk.row (HS.out _ (by first | exact hZ | exact zDrew hZ)).2.2 _⟩)
        clear hK K
        try simp only [Act.put, List.getElem_toArray, List.getElem_cons_zero, List.getElem_cons_succ, List.setIfInBounds_toArray, List.set_cons_zero, List.set_cons_succ]
        refine wpAnyH_ready (rs := [3]) (by kernel_rfl) (by simp) ?_
        refine AllReadyH.cons rfl (fun K hK => ?_) ?_
        ·
          rw [if_pos (by rfl)]
          refine wp_store_row _ _ _ rfl _ #[(.string ⟨#[]⟩), (.string ⟨#[]⟩), (.string ⟨#[]⟩), (.string ⟨#[]⟩), (.string ⟨#[]⟩), (.int .i64 0), (.slice none 0 0), (.slice none 0 0), (.slice none 0 0), (.string ⟨#[]⟩), (.string ⟨#[]⟩), (.string ⟨#[]⟩), (.string ⟨#[]⟩), (.int .i64 0), (.slice none 0 0), (.slice none 0 0), (.slice none 0 0), (.string ⟨#[]⟩), (.string ⟨#[]⟩), (.string ⟨#[]⟩), (.int .i64 0), (.slice none 0 0), (.slice none 0 0), (.slice none 0 0), (.int .i64 0), (.int .i64 0)] rfl rfl _ _ (HS.out _ (by first | exact hZ | exact zDrew hZ)).2.2 (by kernel_rfl) (by rfl) (by kernel_rfl) ?_
          try go_simp
          refine hK.out _ _ ?_ (fun hHeld => ?_)
          focus ((try dsimp only); first | exact HS.out _ hZ | exact HS.out _ (zDrew hZ) | exact ⟨rowFarC (HS.out _ (by first | exact hZ | exact zDrew hZ)).1 hn1 _, rowFarC (HS.out _ (by first | exact hZ | exact zDrew hZ)).2.1 hln _, Blk.row (HS.out _ (by first | exact hZ | exact zDrew hZ)).2.2 _⟩)
          clear hK K
          try simp only [Act.put, List.getElem_toArray, List.getElem_cons_zero, List.getElem_cons_succ, List.setIfInBounds_toArray, List.set_cons_zero, List.set_cons_succ]
          refine wpAnyH_take (i := 4) (v := ?_) rfl (by kernel_rfl) (by kernel_rfl) (by kernel_rfl) (fun _ _ _ h => h) (Or.inl ⟨by rfl, ?_⟩) (by assumption) ?_
          rotate_left
          focus (intro _ hSw; (try dsimp only at hSw); go_simp; try (with_reducible rfl))
          try simp only [Act.put, List.getElem_toArray, List.getElem_cons_zero, List.getElem_cons_succ, List.setIfInBounds_toArray, List.set_cons_zero, List.set_cons_succ]
          refine wpAnyH_done (by kernel_rfl) ?_ _
          go_wp2
          have bz9 : Blk (World.setRow _ (w.heap.size + 1) #[(.string ⟨#[]⟩), (.string ⟨#[]⟩), (.string ⟨#[]⟩), (.string ⟨#[]⟩), (.string ⟨#[]⟩), (.int .i64 0), (.slice none 0 0), (.slice none 0 0), (.slice none 0 0), (.string ⟨#[]⟩), (.string ⟨#[]⟩), (.string ⟨#[]⟩), (.string ⟨#[]⟩), (.int .i64 0), (.slice none 0 0), (.slice none 0 0), (.slice none 0 0), (.string ⟨#[]⟩), (.string ⟨#[]⟩), (.string ⟨#[]⟩), (.int .i64 0), (.slice none 0 0), (.slice none 0 0), (.slice none 0 0), (.int .i64 0), (.int .i64 0)]) (w.heap.size + 1) 34 #[(.string ⟨#[]⟩), (.string ⟨#[]⟩), (.string ⟨#[]⟩), (.string ⟨#[]⟩), (.string ⟨#[]⟩), (.int .i64 0), (.slice none 0 0), (.slice none 0 0), (.slice none 0 0), (.string ⟨#[]⟩), (.string ⟨#[]⟩), (.string ⟨#[]⟩), (.string ⟨#[]⟩), (.int .i64 0), (.slice none 0 0), (.slice none 0 0), (.slice none 0 0), (.string ⟨#[]⟩), (.string ⟨#[]⟩), (.string ⟨#[]⟩), (.int .i64 0), (.slice none 0 0), (.slice none 0 0), (.slice none 0 0), (.int .i64 0), (.int .i64 0)] := Blk.row (HS.out _ hZ).2.2 _
          refine bodyPost_ret (results_ct rfl rfl rfl Tryz.underlying34 (by kernel_rfl) bz9) rfl ?_
          have hBf := Below.setRow (HB.out.trans (((hB9.trans (hZ.mono hB9.size))).mono HB.out.size)) (show w.heap.size ≤ w.heap.size + 1 by omega) #[(.string ⟨#[]⟩), (.string ⟨#[]⟩), (.string ⟨#[]⟩), (.string ⟨#[]⟩), (.string ⟨#[]⟩), (.int .i64 0), (.slice none 0 0), (.slice none 0 0), (.slice none 0 0), (.string ⟨#[]⟩), (.string ⟨#[]⟩), (.string ⟨#[]⟩), (.string ⟨#[]⟩), (.int .i64 0), (.slice none 0 0), (.slice none 0 0), (.slice none 0 0), (.string ⟨#[]⟩), (.string ⟨#[]⟩), (.string ⟨#[]⟩), (.int .i64 0), (.slice none 0 0), (.slice none 0 0), (.slice none 0 0), (.int .i64 0), (.int .i64 0)]
          exact ⟨_, congrArg (fun x : Dlg × Int => Ending.returned (.tuple #[.agg #[(.string ⟨#[]⟩), (.string ⟨#[]⟩), (.string ⟨#[]⟩), (.string ⟨#[]⟩), (.string ⟨#[]⟩), (.int .i64 0), (.slice none 0 0), (.slice none 0 0), (.slice none 0 0), (.string ⟨#[]⟩), (.string ⟨#[]⟩), (.string ⟨#[]⟩), (.string ⟨#[]⟩), (.int .i64 0), (.slice none 0 0), (.slice none 0 0), (.slice none 0 0), (.string ⟨#[]⟩), (.string ⟨#[]⟩), (.string ⟨#[]⟩), (.int .i64 0), (.slice none 0 0), (.slice none 0 0), (.slice none 0 0), (.int .i64 0), (.int .i64 0)], .int .i64 x.2])) HR.out.symm, by rw [HR.out]; exact RDlg.zero _, hBf⟩
        exact AllReadyH.nil
      exact AllReadyH.nil
    · subst hc0
      go_upto_region 10 with (go_at_call 66; refine (HCK.out _ _ _ _ HR7.out.1 HR7.out.2.1 HR7.out.2.2).mono ?_; rintro e z5 ⟨rfl, hC5⟩)
      have hB9 := HB7.out.trans (hC5.mono HB7.out.size)
      have bl9 := HBL7.out.call hC5
      have bz9 := HBZ.out.call hB9
      obtain ⟨x9, x10, x11, x12, x13, x14, x15, x16, x17, x18, x19, x20, x21, x22, x23, x24, x25, x26, x27, x28, x32, x33⟩ := HX.out _ hB9
      obtain ⟨i1, i2, i3, i4, i5, i6⟩ := HK.out _ hB9
      have hb1 : b ≠ w.heap.size + 1 := by omega
      have HS := Lib.hid (fun (wx : World) (h : ∀ k, k ≠ w.heap.size + 1 → wx.heap[k]? = z5.heap[k]?) => (show wx.cell? ⟨w.heap.size, 9, none⟩ = some (.string (bs r.fr.disp)) ∧ wx.cell? ⟨w.heap.size, 10, none⟩ = some (.string (bs r.fr.uri.scheme)) ∧ wx.cell? ⟨w.heap.size, 11, none⟩ = some (.string (bs r.fr.uri.user)) ∧ wx.cell? ⟨w.heap.size, 12, none⟩ = some (.string (bs r.fr.uri.host)) ∧ wx.cell? ⟨w.heap.size, 13, none⟩ = some (.int .i64 r.fr.uri.port) ∧ wx.cell? ⟨w.heap.size, 14, none⟩ = some (.slice e1 r.fr.uri.ps.length y1) ∧ wx.cell? ⟨w.heap.size, 15, none⟩ = some (.slice e2 r.fr.uri.hs.length y2) ∧ wx.cell? ⟨w.heap.size, 16, none⟩ = some (.slice e3 r.fr.ps.length y3) ∧ wx.cell? ⟨w.heap.size, 27, none⟩ = some (.string (bs r.call)) ∧ wx.cell? ⟨w.heap.size, 28, none⟩ = some (.int .i64 r.seq) ∧ wx.cell? ⟨w.heap.size, 32, none⟩ = some (.slice (some ⟨b, off, none⟩) 1 y7) ∧ wx.cell? ⟨w.heap.size, 33, none⟩ = some (.slice e8 r.routes.length y8) ∧ wx.cell? ⟨b, off + 1, none⟩ = some (.string (bs c.uri.scheme)) ∧ wx.cell? ⟨b, off + 2, none⟩ = some (.string (bs c.uri.user)) ∧ wx.cell? ⟨b, off + 3, none⟩ = some (.string (bs c.uri.host)) ∧ wx.cell? ⟨b, off + 4, none⟩ = some (.int .i64 c.uri.port) ∧ wx.cell? ⟨b, off + 5, none⟩ = some (.slice n1 c.uri.ps.length m1) ∧ wx.cell? ⟨b, off + 6, none⟩ = some (.slice n2 c.uri.hs.length m2) ∧ wx.cell? ⟨gl, 0, none⟩ = some (.string (bs r.dst.disp)) ∧ wx.cell? ⟨gl, 1, none⟩ = some (.string (bs r.dst.uri.scheme)) ∧ wx.cell? ⟨gl, 2, none⟩ = some (.string (bs r.dst.uri.user)) ∧ wx.cell? ⟨gl, 3, none⟩ = some (.string (bs r.dst.uri.host)) ∧ wx.cell? ⟨gl, 4, none⟩ = some (.int .i64 r.dst.uri.port) ∧ wx.cell? ⟨gl, 5, none⟩ = some (.slice e4 r.dst.uri.ps.length y4) ∧ wx.cell? ⟨gl, 6, none⟩ = some (.slice e5 r.dst.uri.hs.length y5) ∧ wx.cell? ⟨gl, 7, none⟩ = some (.slice a3 (r.dst.ps.length + 1) c3) from by
        have hc1 : ∀ o, wx.cell? ⟨w.heap.size, o, none⟩ = z5.cell? ⟨w.heap.size, o, none⟩ := fun o => World.cell?_of_block (w := z5) (a := ⟨w.heap.size, o, none⟩) (h _ (by show w.heap.size ≠ w.heap.size + 1; omega))
        have hc2 : ∀ o, wx.cell? ⟨b, o, none⟩ = z5.cell? ⟨b, o, none⟩ := fun o => World.cell?_of_block (w := z5) (a := ⟨b, o, none⟩) (h _ hb1)
        have hc3 : ∀ o, wx.cell? ⟨gl, o, none⟩ = z5.cell? ⟨gl, o, none⟩ := fun o => World.cell?_of_block (w := z5) (a := ⟨gl, o, none⟩) (h _ hln)
        simp only [hc1, hc2, hc3]
        exact ⟨x9, x10, x11, x12, x13, x14, x15, x16, x27, x28, x32, x33, i1, i2, i3, i4, i5, i6, boxedCell bl9 0, boxedCell bl9 1, boxedCell bl9 2, boxedCell bl9 3, boxedCell bl9 4, boxedCell bl9 5, boxedCell bl9 6, boxedCell bl9 7⟩))
      have HBZ9 := Lib.hid bz9
      have HR9 := Lib.hid (HR7.out.2.2.below hC5 (Nat.le_refl _))
      have HBF := Lib.hid (HB.out.trans (hB9.mono HB.out.size))
      clear bz9 bl9 hB9 i1 i2 i3 i4 i5 i6 r0 r1 r2 r3 r4 r5 r6 r7 x9 x10 x11 x12 x13 x14 x15 x16 x17 x18 x19 x20 x21 x22 x23 x24 x25 x26 x27 x28 x32 x33
      refine wp_region_held_drew (S := fun wx => wx.cell? ⟨w.heap.size, 9, none⟩ = some (.string (bs r.fr.disp)) ∧ wx.cell? ⟨w.heap.size, 10, none⟩ = some (.string (bs r.fr.uri.scheme)) ∧ wx.cell? ⟨w.heap.size, 11, none⟩ = some (.string (bs r.fr.uri.user)) ∧ wx.cell? ⟨w.heap.size, 12, none⟩ = some (.string (bs r.fr.uri.host)) ∧ wx.cell? ⟨w.heap.size, 13, none⟩ = some (.int .i64 r.fr.uri.port) ∧ wx.cell? ⟨w.heap.size, 14, none⟩ = some (.slice e1 r.fr.uri.ps.length y1) ∧ wx.cell? ⟨w.heap.size, 15, none⟩ = some (.slice e2 r.fr.uri.hs.length y2) ∧ wx.cell? ⟨w.heap.size, 16, none⟩ = some (.slice e3 r.fr.ps.length y3) ∧ wx.cell? ⟨w.heap.size, 27, none⟩ = some (.string (bs r.call)) ∧ wx.cell? ⟨w.heap.size, 28, none⟩ = some (.int .i64 r.seq) ∧ wx.cell? ⟨w.heap.size, 32, none⟩ = some (.slice (some ⟨b, off, none⟩) 1 y7) ∧ wx.cell? ⟨w.heap.size, 33, none⟩ = some (.slice e8 r.routes.length y8) ∧ wx.cell? ⟨b, off + 1, none⟩ = some (.string (bs c.uri.scheme)) ∧ wx.cell? ⟨b, off + 2, none⟩ = some (.string (bs c.uri.user)) ∧ wx.cell? ⟨b, off + 3, none⟩ = some (.string (bs c.uri.host)) ∧ wx.cell? ⟨b, off + 4, none⟩ = some (.int .i64 c.uri.port) ∧ wx.cell? ⟨b, off + 5, none⟩ = some (.slice n1 c.uri.ps.length m1) ∧ wx.cell? ⟨b, off + 6, none⟩ = some (.slice n2 c.uri.hs.length m2) ∧ wx.cell? ⟨gl, 0, none⟩ = some (.string (bs r.dst.disp)) ∧ wx.cell? ⟨gl, 1, none⟩ = some (.string (bs r.dst.uri.scheme)) ∧ wx.cell? ⟨gl, 2, none⟩ = some (.string (bs r.dst.uri.user)) ∧ wx.cell? ⟨gl, 3, none⟩ = some (.string (bs r.dst.uri.host)) ∧ wx.cell? ⟨gl, 4, none⟩ = some (.int .i64 r.dst.uri.port) ∧ wx.cell? ⟨gl, 5, none⟩ = some (.slice e4 r.dst.uri.ps.length y4) ∧ wx.cell? ⟨gl, 6, none⟩ = some (.slice e5 r.dst.uri.hs.length y5) ∧ wx.cell? ⟨gl, 7, none⟩ = some (.slice a3 (r.dst.ps.length + 1) c3)) (by kernel_rfl) (HS.out _ (fun _ _ => rfl)) (fun hHeld => ?_)
      refine wpAnyH_take (i := 0) (v := ?_) rfl (by kernel_rfl) (by kernel_rfl) (by kernel_rfl) (fun _ _ _ h => h) (Or.inl ⟨by rfl, ?_⟩) (by assumption) ?_
      rotate_left
      focus (intro _ hSw; (try dsimp only at hSw); go_simp; try (with_reducible rfl))
      try simp only [Act.put, List.getElem_toArray, List.getElem_cons_zero, List.getElem_cons_succ, List.setIfInBounds_toArray, List.set_cons_zero, List.set_cons_succ]
      refine wpAnyH_take (i := 1) (v := ?_) rfl (by kernel_rfl) (by kernel_rfl) (by kernel_rfl) (fun _ _ _ h => h) (Or.inl ⟨by rfl, ?_⟩) (by assumption) ?_
      rotate_left
      focus (intro _ hSw; (try dsimp only at hSw); go_simp; try (with_reducible rfl))
      try simp only [Act.put, List.getElem_toArray, List.getElem_cons_zero, List.getElem_cons_succ, List.setIfInBounds_toArray, List.set_cons_zero, List.set_cons_succ]
      refine wpAnyH_take (i := 2) (v := ?_) rfl (by kernel_rfl) (by kernel_rfl) (by kernel_rfl) (fun _ _ _ h => h) (Or.inl ⟨by rfl, ?_⟩) (by assumption) ?_
      rotate_left
      focus (intro _ hSw; (try dsimp only at hSw); go_simp; try (with_reducible rfl))
      try simp only [Act.put, List.getElem_toArray, List.getElem_cons_zero, List.getElem_cons_succ, List.setIfInBounds_toArray, List.set_cons_zero, List.set_cons_succ]
      refine wpAnyH_take (i := 3) (v := ?_) rfl (by kernel_rfl) (by kernel_rfl) (by kernel_rfl) (fun _ _ _ h => h) (Or.inl ⟨by rfl, ?_⟩) (by assumption) ?_
      rotate_left
      focus (intro _ hSw; (try dsimp only at hSw); go_simp; try (with_reducible rfl))
      try simp only [Act.put, List.getElem_toArray, List.getElem_cons_zero, List.getElem_cons_succ, List.setIfInBounds_toArray, List.set_cons_zero, List.set_cons_succ]
      refine wpAnyH_take (i := 4) (v := ?_) rfl (by kernel_rfl) (by kernel_rfl) (by kernel_rfl) (fun _ _ _ h => h) (Or.inl ⟨by rfl, ?_⟩) (by assumption) ?_
      rotate_left
      focus (intro _ hSw; (try dsimp only at hSw); go_simp; try (with_reducible rfl))
      try simp only [Act.put, List.getElem_toArray, List.getElem_cons_zero, List.getElem_cons_succ, List.setIfInBounds_toArray, List.set_cons_zero, List.set_cons_succ]
      refine wpAnyH_take (i := 5) (v := ?_) rfl (by kernel_rfl) (by kernel_rfl) (by kernel_rfl) (fun _ _ _ h => h) (Or.inl ⟨by rfl, ?_⟩) (by assumption) ?_
      rotate_left
      focus (intro _ hSw; (try dsimp only at hSw); go_simp; try (with_reducible rfl))
      try simp only [Act.put, List.getElem_toArray, List.getElem_cons_zero, List.getElem_cons_succ, List.setIfInBounds_toArray, List.set_cons_zero, List.set_cons_succ]
      refine wpAnyH_take (i := 6) (v := ?_) rfl (by kernel_rfl) (by kernel_rfl) (by kernel_rfl) (fun _ _ _ h => h) (Or.inl ⟨by rfl, ?_⟩) (by assumption) ?_
      rotate_left
      focus (intro _ hSw; (try dsimp only at hSw); go_simp; try (with_reducible rfl))
      try simp only [Act.put, List.getElem_toArray, List.getElem_cons_zero, List.getElem_cons_succ, List.setIfInBounds_toArray, List.set_cons_zero, List.set_cons_succ]
      refine wpAnyH_take (i := 7) (v := ?_) rfl (by kernel_rfl) (by kernel_rfl) (by kernel_rfl) (fun _ _ _ h => h) (Or.inl ⟨by rfl, ?_⟩) (by assumption) ?_
      rotate_left
      focus (intro _ hSw; (try dsimp only at hSw); go_simp; try (with_reducible rfl))
      try simp only [Act.put, List.getElem_toArray, List.getElem_cons_zero, List.getElem_cons_succ, List.setIfInBounds_toArray, List.set_cons_zero, List.set_cons_succ]
      refine wpAnyH_take (i := 8) (v := ?_) rfl (by kernel_rfl) (by kernel_rfl) (by kernel_rfl) (fun _ _ _ h => h) (Or.inl ⟨by rfl, ?_⟩) (by assumption) ?_
      rotate_left
      focus (intro _ hSw; (try dsimp only at hSw); go_simp; try (with_reducible rfl))
      try simp only [Act.put, List.getElem_toArray, List.getElem_cons_zero, List.getElem_cons_succ, List.setIfInBounds_toArray, List.set_cons_zero, List.set_cons_succ]
      refine wpAnyH_take (i := 9) (v := ?_) rfl (by kernel_rfl) (by kernel_rfl) (by kernel_rfl) (fun _ _ _ h => h) (Or.inl ⟨by rfl, ?_⟩) (by assumption) ?_
      rotate_left
      focus (intro _ hSw; (try dsimp only at hSw); go_simp; try (with_reducible rfl))
      try simp only [Act.put, List.getElem_toArray, List.getElem_cons_zero, List.getElem_cons_succ, List.setIfInBounds_toArray, List.set_cons_zero, List.set_cons_succ]
      refine wpAnyH_take (i := 10) (v := ?_) rfl (by kernel_rfl) (by kernel_rfl) (by kernel_rfl) (fun _ _ _ h => h) (Or.inl ⟨by rfl, ?_⟩) (by assumption) ?_
      rotate_left
      focus (intro _ hSw; (try dsimp only at hSw); go_simp; try (with_reducible rfl))
      try simp only [Act.put, List.getElem_toArray, List.getElem_cons_zero, List.getElem_cons_succ, List.setIfInBounds_toArray, List.set_cons_zero, List.set_cons_succ]
      refine wpAnyH_take (i := 11) (v := ?_) rfl (by kernel_rfl) (by kernel_rfl) (by kernel_rfl) (fun _ _ _ h => h) (Or.inl ⟨by rfl, ?_⟩) (by assumption) ?_
      rotate_left
      focus (intro _ hSw; (try dsimp only at hSw); go_simp; try (with_reducible rfl))
      try simp only [Act.put, List.getElem_toArray, List.getElem_cons_zero, List.getElem_cons_succ, List.setIfInBounds_toArray, List.set_cons_zero, List.set_cons_succ]
      refine wpAnyH_take (i := 12) (v := ?_) rfl (by kernel_rfl) (by kernel_rfl) (by kernel_rfl) (fun _ _ _ h => h) (Or.inl ⟨by rfl, ?_⟩) (by assumption) ?_
      rotate_left
      focus (intro _ hSw; (try dsimp only at hSw); go_simp; try (with_reducible rfl))
      try simp only [Act.put, List.getElem_toArray, List.getElem_cons_zero, List.getElem_cons_succ, List.setIfInBounds_toArray, List.set_cons_zero, List.set_cons_succ]
      refine wpAnyH_take (i := 13) (v := ?_) rfl (by kernel_rfl) (by kernel_rfl) (by kernel_rfl) (fun _ _ _ h => h) (Or.inl ⟨by rfl, ?_⟩) (by assumption) ?_
      rotate_left
      focus (intro _ hSw; (try dsimp only at hSw); go_simp; try (with_reducible rfl))
      try simp only [Act.put, List.getElem_toArray, List.getElem_cons_zero, List.getElem_cons_succ, List.setIfInBounds_toArray, List.set_cons_zero, List.set_cons_succ]
      refine wpAnyH_take (i := 14) (v := ?_) rfl (by kernel_rfl) (by kernel_rfl) (by kernel_rfl) (fun _ _ _ h => h) (Or.inl ⟨by rfl, ?_⟩) (by assumption) ?_
      rotate_left
      focus (intro _ hSw; (try dsimp only at hSw); go_simp; try (with_reducible rfl))
      try simp only [Act.put, List.getElem_toArray, List.getElem_cons_zero, List.getElem_cons_succ, List.setIfInBounds_toArray, List.set_cons_zero, List.set_cons_succ]
      refine wpAnyH_ready (rs := [15]) (by kernel_rfl) (by simp) ?_
      refine AllReadyH.cons rfl (fun K hK => ?_) ?_
      ·
        rw [if_pos (by rfl)]
        refine wp_store_row _ _ _ rfl _ #[.string (bs r.call), .string (bs r.dst.disp), .string (bs r.dst.uri.scheme), .string (bs r.dst.uri.user), .string (bs r.dst.uri.host), .int .i64 r.dst.uri.port, .slice e4 r.dst.uri.ps.length y4, .slice e5 r.dst.uri.hs.length y5, .slice a3 (r.dst.ps.length + 1) c3, .string (bs r.fr.disp), .string (bs r.fr.uri.scheme), .string (bs r.fr.uri.user), .string (bs r.fr.uri.host), .int .i64 r.fr.uri.port, .slice e1 r.fr.uri.ps.length y1, .slice e2 r.fr.uri.hs.length y2, .slice e3 r.fr.ps.length y3, .string (bs c.uri.scheme), .string (bs c.uri.user), .string (bs c.uri.host), .int .i64 c.uri.port, .slice n1 c.uri.ps.length m1, .slice n2 c.uri.hs.length m2, .slice e8 r.routes.length y8, .int .i64 r.seq, .int .i64 0] rfl rfl _ _ HBZ9.out (by kernel_rfl) (by rfl) (by kernel_rfl) ?_
        try go_simp
        refine hK.out _ _ ?_ (fun hHeld => ?_)
        focus ((try dsimp only); first | exact HS.out _ (fun _ _ => rfl) | exact HS.out _ (fun k hk => setRow_far _ _ _ k hk))
        clear hK K
        try simp only [Act.put, List.getElem_toArray, List.getElem_cons_zero, List.getElem_cons_succ, List.setIfInBounds_toArray, List.set_cons_zero, List.set_cons_succ]
        refine wpAnyH_take (i := 16) (v := ?_) rfl (by kernel_rfl) (by kernel_rfl) (by kernel_rfl) (fun _ _ _ h => h) (Or.inl ⟨by rfl, ?_⟩) (by assumption) ?_
        rotate_left
        focus (intro _ hSw; (try dsimp only at hSw); go_simp; try (with_reducible rfl))
        try simp only [Act.put, List.getElem_toArray, List.getElem_cons_zero, List.getElem_cons_succ, List.setIfInBounds_toArray, List.set_cons_zero, List.set_cons_succ]
        refine wpAnyH_done (by kernel_rfl) ?_ _
        go_wp2
        have bz9 : Blk (World.setRow z5.drew (w.heap.size + 1) #[.string (bs r.call), .string (bs r.dst.disp), .string (bs r.dst.uri.scheme), .string (bs r.dst.uri.user), .string (bs r.dst.uri.host), .int .i64 r.dst.uri.port, .slice e4 r.dst.uri.ps.length y4, .slice e5 r.dst.uri.hs.length y5, .slice a3 (r.dst.ps.length + 1) c3, .string (bs r.fr.disp), .string (bs r.fr.uri.scheme), .string (bs r.fr.uri.user), .string (bs r.fr.uri.host), .int .i64 r.fr.uri.port, .slice e1 r.fr.uri.ps.length y1, .slice e2 r.fr.uri.hs.length y2, .slice e3 r.fr.ps.length y3, .string (bs c.uri.scheme), .string (bs c.uri.user), .string (bs c.uri.host), .int .i64 c.uri.port, .slice n1 c.uri.ps.length m1, .slice n2 c.uri.hs.length m2, .slice e8 r.routes.length y8, .int .i64 r.seq, .int .i64 0]) (w.heap.size + 1) 34 #[.string (bs r.call), .string (bs r.dst.disp), .string (bs r.dst.uri.scheme), .string (bs r.dst.uri.user), .string (bs r.dst.uri.host), .int .i64 r.dst.uri.port, .slice e4 r.dst.uri.ps.length y4, .slice e5 r.dst.uri.hs.length y5, .slice a3 (r.dst.ps.length + 1) c3, .string (bs r.fr.disp), .string (bs r.fr.uri.scheme), .string (bs r.fr.uri.user), .string (bs r.fr.uri.host), .int .i64 r.fr.uri.port, .slice e1 r.fr.uri.ps.length y1, .slice e2 r.fr.uri.hs.length y2, .slice e3 r.fr.ps.length y3, .string (bs c.uri.scheme), .string (bs c.uri.user), .string (bs c.uri.host), .int .i64 c.uri.port, .slice n1 c.uri.ps.length m1, .slice n2 c.uri.hs.length m2, .slice e8 r.routes.length y8, .int .i64 r.seq, .int .i64 0] := HBZ9.out.row _
        refine bodyPost_ret (results_ct rfl rfl rfl Tryz.underlying34 (by kernel_rfl) bz9) rfl ?_
        have hBf := Below.setRow (zDrew HBF.out) (show w.heap.size ≤ w.heap.size + 1 by omega) #[.string (bs r.call), .string (bs r.dst.disp), .string (bs r.dst.uri.scheme), .string (bs r.dst.uri.user), .string (bs r.dst.uri.host), .int .i64 r.dst.uri.port, .slice e4 r.dst.uri.ps.length y4, .slice e5 r.dst.uri.hs.length y5, .slice a3 (r.dst.ps.length + 1) c3, .string (bs r.fr.disp), .string (bs r.fr.uri.scheme), .string (bs r.fr.uri.user), .string (bs r.fr.uri.host), .int .i64 r.fr.uri.port, .slice e1 r.fr.uri.ps.length y1, .slice e2 r.fr.uri.hs.length y2, .slice e3 r.fr.ps.length y3, .string (bs c.uri.scheme), .string (bs c.uri.user), .string (bs c.uri.host), .int .i64 c.uri.port, .slice n1 c.uri.ps.length m1, .slice n2 c.uri.hs.length m2, .slice e8 r.routes.length y8, .int .i64 r.seq, .int .i64 0]
        have hfar := fun k hk => setRow_far z5.drew (w.heap.size + 1) #[.string (bs r.call), .string (bs r.dst.disp), .string (bs r.dst.uri.scheme), .string (bs r.dst.uri.user), .string (bs r.dst.uri.host), .int .i64 r.dst.uri.port, .slice e4 r.dst.uri.ps.length y4, .slice e5 r.dst.uri.hs.length y5, .slice a3 (r.dst.ps.length + 1) c3, .string (bs r.fr.disp), .string (bs r.fr.uri.scheme), .string (bs r.fr.uri.user), .string (bs r.fr.uri.host), .int .i64 r.fr.uri.port, .slice e1 r.fr.uri.ps.length y1, .slice e2 r.fr.uri.hs.length y2, .slice e3 r.fr.ps.length y3, .string (bs c.uri.scheme), .string (bs c.uri.user), .string (bs c.uri.host), .int .i64 c.uri.port, .slice n1 c.uri.ps.length m1, .slice n2 c.uri.hs.length m2, .slice e8 r.routes.length y8, .int .i64 r.seq, .int .i64 0] k hk
        have hs9 : z5.heap.size ≤ (World.setRow z5.drew (w.heap.size + 1) #[.string (bs r.call), .string (bs r.dst.disp), .string (bs r.dst.uri.scheme), .string (bs r.dst.uri.user), .string (bs r.dst.uri.host), .int .i64 r.dst.uri.port, .slice e4 r.dst.uri.ps.length y4, .slice e5 r.dst.uri.hs.length y5, .slice a3 (r.dst.ps.length + 1) c3, .string (bs r.fr.disp), .string (bs r.fr.uri.scheme), .string (bs r.fr.uri.user), .string (bs r.fr.uri.host), .int .i64 r.fr.uri.port, .slice e1 r.fr.uri.ps.length y1, .slice e2 r.fr.uri.hs.length y2, .slice e3 r.fr.ps.length y3, .string (bs c.uri.scheme), .string (bs c.uri.user), .string (bs c.uri.host), .int .i64 c.uri.port, .slice n1 c.uri.ps.length m1, .slice n2 c.uri.hs.length m2, .slice e8 r.routes.length y8, .int .i64 r.seq, .int .i64 0]).heap.size := Nat.le_of_eq (setRow_size z5.drew (w.heap.size + 1) _).symm
        have go : ∀ {v : Value} {L : List Prm}, RPrms z5 v L → RPrms (World.setRow z5.drew (w.heap.size + 1) #[.string (bs r.call), .string (bs r.dst.disp), .string (bs r.dst.uri.scheme), .string (bs r.dst.uri.user), .string (bs r.dst.uri.host), .int .i64 r.dst.uri.port, .slice e4 r.dst.uri.ps.length y4, .slice e5 r.dst.uri.hs.length y5, .slice a3 (r.dst.ps.length + 1) c3, .string (bs r.fr.disp), .string (bs r.fr.uri.scheme), .string (bs r.fr.uri.user), .string (bs r.fr.uri.host), .int .i64 r.fr.uri.port, .slice e1 r.fr.uri.ps.length y1, .slice e2 r.fr.uri.hs.length y2, .slice e3 r.fr.ps.length y3, .string (bs c.uri.scheme), .string (bs c.uri.user), .string (bs c.uri.host), .int .i64 c.uri.port, .slice n1 c.uri.ps.length m1, .slice n2 c.uri.hs.length m2, .slice e8 r.routes.length y8, .int .i64 r.seq, .int .i64 0]) v L := fun h => Off.prms h (Off.noBool h HBZ9.out (by kernel_rfl)) hfar hs9
        have old : ∀ {v : Value} {L : List Prm}, RPrms w v L → RPrms z5 v L := fun h => h.below HBF.out (Nat.le_refl _)
        refine ⟨_, congrArg (fun x : Dlg × Int => Ending.returned (.tuple #[.agg #[.string (bs r.call), .string (bs r.dst.disp), .string (bs r.dst.uri.scheme), .string (bs r.dst.uri.user), .string (bs r.dst.uri.host), .int .i64 r.dst.uri.port, .slice e4 r.dst.uri.ps.length y4, .slice e5 r.dst.uri.hs.length y5, .slice a3 (r.dst.ps.length + 1) c3, .string (bs r.fr.disp), .string (bs r.fr.uri.scheme), .string (bs r.fr.uri.user), .string (bs r.fr.uri.host), .int .i64 r.fr.uri.port, .slice e1 r.fr.uri.ps.length y1, .slice e2 r.fr.uri.hs.length y2, .slice e3 r.fr.ps.length y3, .string (bs c.uri.scheme), .string (bs c.uri.user), .string (bs c.uri.host), .int .i64 c.uri.port, .slice n1 c.uri.ps.length m1, .slice n2 c.uri.hs.length m2, .slice e8 r.routes.length y8, .int .i64 r.seq, .int .i64 0], .int .i64 x.2])) HR.out.symm, ?_, hBf⟩
        rw [HR.out]
        obtain ⟨h1, h2, h3, h4, h5, h6, h8⟩ := HRS.out
        exact ⟨(.slice e4 r.dst.uri.ps.length y4), (.slice e5 r.dst.uri.hs.length y5), (.slice a3 (r.dst.ps.length + 1) c3), (.slice e1 r.fr.uri.ps.length y1), (.slice e2 r.fr.uri.hs.length y2), (.slice e3 r.fr.ps.length y3), (.slice n1 c.uri.ps.length m1), (.slice n2 c.uri.hs.length m2), (.slice e8 r.routes.length y8), by kernel_rfl, go (old h4), go (old h5), go HR9.out, go (old h1), go (old h2), go (old h3), go (old HQ.out.1), go (old HQ.out.2), Off.strs (h8.below HBF.out (Nat.le_refl _)) (Off.oldS h8 (by omega)) hfar hs9⟩
      exact AllReadyH.nil
  all_goals
    go_wp2_with (first | (go_at_call 65; refine (HTK.out _).mono ?_; rintro e wx ⟨rfl, rfl⟩) | (with_reducible refine holdLoad 34 rfl ?_))
    unfold Hold
    refine wpList_loadB (vs := #[(.string ⟨#[]⟩), (.string ⟨#[]⟩), (.string ⟨#[]⟩), (.string ⟨#[]⟩), (.string ⟨#[]⟩), (.int .i64 0), (.slice none 0 0), (.slice none 0 0), (.slice none 0 0), (.string ⟨#[]⟩), (.string ⟨#[]⟩), (.string ⟨#[]⟩), (.string ⟨#[]⟩), (.int .i64 0), (.slice none 0 0), (.slice none 0 0), (.slice none 0 0), (.string ⟨#[]⟩), (.string ⟨#[]⟩), (.string ⟨#[]⟩), (.int .i64 0), (.slice none 0 0), (.slice none 0 0), (.slice none 0 0), (.int .i64 0), (.int .i64 0)]) rfl rfl rfl Tryz.underlying34 (by kernel_rfl) HBN.out (by kernel_rfl) ?_
    refine wpList_storeB (vs := #[(.string ⟨#[]⟩), (.string ⟨#[]⟩), (.string ⟨#[]⟩), (.string ⟨#[]⟩), (.string ⟨#[]⟩), (.int .i64 0), (.slice none 0 0), (.slice none 0 0), (.slice none 0 0), (.string ⟨#[]⟩), (.string ⟨#[]⟩), (.string ⟨#[]⟩), (.string ⟨#[]⟩), (.int .i64 0), (.slice none 0 0), (.slice none 0 0), (.slice none 0 0), (.string ⟨#[]⟩), (.string ⟨#[]⟩), (.string ⟨#[]⟩), (.int .i64 0), (.slice none 0 0), (.slice none 0 0), (.slice none 0 0), (.int .i64 0), (.int .i64 0)]) (cs' := #[(.string ⟨#[]⟩), (.string ⟨#[]⟩), (.string ⟨#[]⟩), (.string ⟨#[]⟩), (.string ⟨#[]⟩), (.int .i64 0), (.slice none 0 0), (.slice none 0 0), (.slice none 0 0), (.string ⟨#[]⟩), (.string ⟨#[]⟩), (.string ⟨#[]⟩), (.string ⟨#[]⟩), (.int .i64 0), (.slice none 0 0), (.slice none 0 0), (.slice none 0 0), (.string ⟨#[]⟩), (.string ⟨#[]⟩), (.string ⟨#[]⟩), (.int .i64 0), (.slice none 0 0), (.slice none 0 0), (.slice none 0 0), (.int .i64 0), (.int .i64 0)]) rfl rfl rfl rfl (by kernel_rfl) HBZ.out (Nat.le_of_eq (by kernel_rfl)) (by kernel_rfl) (by kernel_rfl) ?_
    intro w9 bz9 hfar9 hsz9 hbel9
    go_wp2
    refine bodyPost_ret (results_ct rfl rfl rfl Tryz.underlying34 (by kernel_rfl) bz9) rfl ?_
    have hBf := HB.out.trans (hbel9 w.heap.size (by omega))
    exact ⟨_, congrArg (fun x : Dlg × Int => Ending.returned (.tuple #[.agg #[(.string ⟨#[]⟩), (.string ⟨#[]⟩), (.string ⟨#[]⟩), (.string ⟨#[]⟩), (.string ⟨#[]⟩), (.int .i64 0), (.slice none 0 0), (.slice none 0 0), (.slice none 0 0), (.string ⟨#[]⟩), (.string ⟨#[]⟩), (.string ⟨#[]⟩), (.string ⟨#[]⟩), (.int .i64 0), (.slice none 0 0), (.slice none 0 0), (.slice none 0 0), (.string ⟨#[]⟩), (.string ⟨#[]⟩), (.string ⟨#[]⟩), (.int .i64 0), (.slice none 0 0), (.slice none 0 0), (.slice none 0 0), (.int .i64 0), (.int .i64 0)], .int .i64 x.2])) HR.out.symm, by rw [HR.out]; exact RDlg.zero _, hBf⟩

end Go.Proofs.YtipdiddjhimdcaaGreatDoor
