/- Contracts of Go functions, and plain laws. No condition but those told. -/
import Derived.Test.YtipdiddjhimdcaaGreatDoorB11
set_option linter.unusedSimpArgs false
set_option linter.unusedVariables false
set_option maxRecDepth 100000
namespace Go.Proofs.YtipdiddjhimdcaaGreatDoor
open Go.RowKit Go.Sort
structure Dlg where
 call : List UInt8
 loc : Adr
 rem : Adr
 tgt : Uri
 routes : List (List UInt8)
 lin : Int
 lout : Int
structure Rq where
 fr : Adr
 dst : Adr
 fromT : List UInt8
 toT : List UInt8
 call : List UInt8
 seq : Int
 contact : List Adr
 routes : List (List UInt8)
def dlg0 : Dlg := ⟨[], adr0, adr0, uri0, [], 0, 0⟩
def taggedS (a : Adr) (t : List UInt8) : Adr := ⟨a.disp, a.uri, a.ps ++ [⟨nTag, t, true⟩]⟩
def beginS (r : Rq) (t : List UInt8) : Dlg × Int :=
 if r.toT ≠ [] ∨ r.fromT = [] ∨ token t = false then (dlg0, 1)
 else match r.contact with
 | [c] => if checkA (taggedS r.dst t) = 0 then (⟨r.call, taggedS r.dst t, r.fr, c.uri, r.routes, r.seq, 0⟩, 0) else (dlg0, checkA (taggedS r.dst t))
 | _ => (dlg0, 100)
def matchD (d : Dlg) (r : Rq) : Bool := r.call == d.call && r.toT == tagA d.loc && r.fromT == tagA d.rem
def takeD (d : Dlg) (r : Rq) : Dlg := ⟨d.call, d.loc, d.rem, (match r.contact with | [c] => c.uri | _ => d.tgt), d.routes, r.seq, d.lout⟩
def takeS (d : Dlg) (r : Rq) : Dlg × Int := if matchD d r = false then (d, 6) else if r.seq ≤ d.lin then (d, 180) else (takeD d r, 0)
def byU (u : Uri) : List UInt8 := byV ⟨u.host, u.port, []⟩
def whereD (d : Dlg) : List UInt8 := match d.routes with | [] => byU d.tgt | x :: _ => if (parseA x).2 = 0 then byU (parseA x).1.uri else []
def RDlg (w : World) (v : Value) (d : Dlg) : Prop :=
 ∃ u1 u2 u3 u4 u5 u6 u7 u8 u9, v = .agg #[.string (bs d.call), .string (bs d.loc.disp), .string (bs d.loc.uri.scheme), .string (bs d.loc.uri.user), .string (bs d.loc.uri.host), .int .i64 d.loc.uri.port, u1, u2, u3, .string (bs d.rem.disp), .string (bs d.rem.uri.scheme), .string (bs d.rem.uri.user), .string (bs d.rem.uri.host), .int .i64 d.rem.uri.port, u4, u5, u6, .string (bs d.tgt.scheme), .string (bs d.tgt.user), .string (bs d.tgt.host), .int .i64 d.tgt.port, u7, u8, u9, .int .i64 d.lin, .int .i64 d.lout] ∧ RPrms w u1 d.loc.uri.ps ∧ RPrms w u2 d.loc.uri.hs ∧ RPrms w u3 d.loc.ps ∧ RPrms w u4 d.rem.uri.ps ∧ RPrms w u5 d.rem.uri.hs ∧ RPrms w u6 d.rem.ps ∧ RPrms w u7 d.tgt.ps ∧ RPrms w u8 d.tgt.hs ∧ RStrs w u9 d.routes
def RReq (w : World) (v : Value) (r : Rq) : Prop :=
 ∃ c0 c1 c2 c3 c4 c5 c6 c7 c8 c9 c10 c11 c12 c13 c14 c15 u1 u2 u3 u4 u5 u6 u7 u8, v = .agg #[c0, c1, c2, c3, c4, c5, c6, c7, c8, .string (bs r.fr.disp), .string (bs r.fr.uri.scheme), .string (bs r.fr.uri.user), .string (bs r.fr.uri.host), .int .i64 r.fr.uri.port, u1, u2, u3, .string (bs r.dst.disp), .string (bs r.dst.uri.scheme), .string (bs r.dst.uri.user), .string (bs r.dst.uri.host), .int .i64 r.dst.uri.port, u4, u5, u6, .string (bs r.fromT), .string (bs r.toT), .string (bs r.call), .int .i64 r.seq, c9, c10, c11, u7, u8, c12, c13, c14, c15] ∧ RPrms w u1 r.fr.uri.ps ∧ RPrms w u2 r.fr.uri.hs ∧ RPrms w u3 r.fr.ps ∧ RPrms w u4 r.dst.uri.ps ∧ RPrms w u5 r.dst.uri.hs ∧ RPrms w u6 r.dst.ps ∧ RAdrs w u7 r.contact ∧ RStrs w u8 r.routes
theorem RDlg.below {w w' : World} {B : Nat} {v : Value} {d : Dlg} (h : RDlg w v d) (hB : Below B w w') (hs : w.heap.size ≤ B) : RDlg w' v d := by
 obtain ⟨u1, u2, u3, u4, u5, u6, u7, u8, u9, rfl, h1, h2, h3, h4, h5, h6, h7, h8, h9⟩ := h
 exact ⟨u1, u2, u3, u4, u5, u6, u7, u8, u9, rfl, h1.below hB hs, h2.below hB hs, h3.below hB hs, h4.below hB hs, h5.below hB hs, h6.below hB hs, h7.below hB hs, h8.below hB hs, h9.below hB hs⟩
theorem RReq.below {w w' : World} {B : Nat} {v : Value} {r : Rq} (h : RReq w v r) (hB : Below B w w') (hs : w.heap.size ≤ B) : RReq w' v r := by
 obtain ⟨c0, c1, c2, c3, c4, c5, c6, c7, c8, c9, c10, c11, c12, c13, c14, c15, u1, u2, u3, u4, u5, u6, u7, u8, rfl, h1, h2, h3, h4, h5, h6, h7, h8⟩ := h
 exact ⟨c0, c1, c2, c3, c4, c5, c6, c7, c8, c9, c10, c11, c12, c13, c14, c15, u1, u2, u3, u4, u5, u6, u7, u8, rfl, h1.below hB hs, h2.below hB hs, h3.below hB hs, h4.below hB hs, h5.below hB hs, h6.below hB hs, h7.below hB hs, h8.below hB hs⟩
theorem checkAR_c (D S U H : ByteArray) (n : Int) (u1 u2 u3 : Value) (F G P : List Prm) (hD : D.size ≤ 4294967280) (hS : S.size ≤ 4294967280) (hH : H.size ≤ 4294967280) (w : World) (h1 : RPrms w u1 F) (h2 : RPrms w u2 G) (h3 : RPrms w u3 P) (hb1 : ∀ p ∈ F, p.name.length ≤ 4294967280 ∧ p.value.length ≤ 4294967280) (hb2 : ∀ p ∈ G, p.name.length ≤ 4294967280 ∧ p.value.length ≤ 4294967280) (hb3 : ∀ p ∈ P, p.name.length ≤ 4294967280 ∧ p.value.length ≤ 4294967280) :
  Calls Tryz.prog 66 #[.agg #[.string D, .string S, .string U, .string H, .int .i64 n, u1, u2, u3]] w fun e w' => e = .returned (.int .i64 (checkA (⟨us D, ⟨us S, us U, us H, n, F, G⟩, P⟩ : Adr))) ∧ Below w.heap.size w w' := by
 have HU1 := κ h1
 have HU2 := κ h2
 have HU3 := κ h3
 obtain ⟨ao, ac, rfl, _, _⟩ := h1.form
 obtain ⟨bo, bc, rfl, _, _⟩ := h2.form
 obtain ⟨co, cc, rfl, _, _⟩ := h3.form
 have HQ := κ (fun wx => quoteR_c D (by omega) wx)
 have HU := κ (fun wx h1 h2 => checkUR_c S U H n (.slice ao F.length ac) (.slice bo G.length bc) F G hS hH wx h1 h2 hb1 hb2)
 have HT := κ (fun wx hv => textR_c (.slice co P.length cc) P wx hv hb3)
 have hcs := checkA_cases D S U H n F G P
 obtain ⟨q, hq⟩ : ∃ q, q = quote (us D) := ⟨_, rfl⟩
 obtain ⟨cu, hcu⟩ : ∃ q, q = checkU ⟨us S, us U, us H, n, F, G⟩ := ⟨_, rfl⟩
 obtain ⟨t, ht⟩ : ∃ q, q = textS P := ⟨_, rfl⟩
 obtain ⟨C, hC⟩ : ∃ C, C = checkA (⟨us D, ⟨us S, us U, us H, n, F, G⟩, P⟩ : Adr) := ⟨_, rfl⟩
 rw [← hq] at HQ hcs
 rw [← hcu] at HU hcs
 rw [← ht] at HT hcs
 rw [← hC] at hcs ⊢
 clear hq hcu ht hC h1 h2 h3 hb1 hb2 hb3
 obtain ⟨qs, qe⟩ := q
 obtain ⟨ts, te⟩ := t
 dsimp only at hcs HQ HT
 have hB0 : Below w.heap.size w (w.alloc (.cells #[.string D, .string S, .string U, .string H, .int .i64 n, .slice ao F.length ac, .slice bo G.length bc, .slice co P.length cc] 26)) := (Below.refl _ _).alloc (ρ _) _
 have bm0 := Blk.new w 26 #[.string D, .string S, .string U, .string H, .int .i64 n, .slice ao F.length ac, .slice bo G.length bc, .slice co P.length cc]
 obtain ⟨w0, hw0⟩ : ∃ w0, w0 = w.alloc (.cells #[.string D, .string S, .string U, .string H, .int .i64 n, .slice ao F.length ac, .slice bo G.length bc, .slice co P.length cc] 26) := ⟨_, rfl⟩
 rw [← hw0] at hB0 bm0
 have HX := κ (fun (wx : World) (h : Below w0.heap.size w0 wx) => (show Blk wx w.heap.size 26 #[.string D, .string S, .string U, .string H, .int .i64 n, .slice ao F.length ac, .slice bo G.length bc, .slice co P.length cc] ∧ Below w.heap.size w wx ∧ True ∧ RPrms wx (.slice ao F.length ac) F ∧ RPrms wx (.slice bo G.length bc) G ∧ RPrms wx (.slice co P.length cc) P from by
  have hx := hB0.trans (h.mono hB0.size)
  exact ⟨bm0.call h, hx, trivial, HU1.out.below hx (ρ _), HU2.out.below hx (ρ _), HU3.out.below hx (ρ _)⟩))
 have HW0 := κ hw0
 have hZ : Below w0.heap.size w0 w0 := Below.refl _ _
 obtain ⟨bm, hBB, hMM, hU1, hU2, hU3⟩ := HX.out _ hZ
 obtain ⟨p0, p1, p2, p3, p4, p5, p6, p7⟩ := blk_f8 bm
 clear hw0 bm0 hB0
 rcases hcs with ⟨c1, rfl⟩ | ⟨c1, c2, rfl⟩ | ⟨c1, c2, c3, rfl⟩ | ⟨c1, c2, rfl, rfl⟩
 ·by_cases hd64 : 64 < D.size
  all_goals
   go_enter Tryz.func66, Tryz.ntmps66
   go_wp2_with (first | (go_at_call 118; (try rw [← HW0.out]); refine (HQ.out _).mono ?_; rintro e w1 ⟨rfl, hC1⟩; have hZ := hZ.trans (hC1.mono hZ.size); obtain ⟨bm, hBB, hMM, hU1, hU2, hU3⟩ := HX.out _ hZ; obtain ⟨p0, p1, p2, p3, p4, p5, p6, p7⟩ := blk_f8 bm) | (go_at_call 119; refine (HU.out _ hU1 hU2).mono ?_; rintro e w2 ⟨rfl, hC2⟩; have hZ := hZ.trans (hC2.mono hZ.size); obtain ⟨bm, hBB, hMM, hU1, hU2, hU3⟩ := HX.out _ hZ; obtain ⟨p0, p1, p2, p3, p4, p5, p6, p7⟩ := blk_f8 bm) | (go_at_call 120; refine (HT.out _ hU3).mono ?_; rintro e w3 ⟨rfl, hC3⟩; have hZ := hZ.trans (hC3.mono hZ.size); obtain ⟨bm, hBB, hMM, hU1, hU2, hU3⟩ := HX.out _ hZ; obtain ⟨p0, p1, p2, p3, p4, p5, p6, p7⟩ := blk_f8 bm))
   go_ret
   exact ⟨by first | rfl | exact ret_int (by assumption), hBB⟩
 all_goals
  go_enter Tryz.func66, Tryz.ntmps66
  go_wp2_with (first | (go_at_call 118; (try rw [← HW0.out]); refine (HQ.out _).mono ?_; rintro e w1 ⟨rfl, hC1⟩; have hZ := hZ.trans (hC1.mono hZ.size); obtain ⟨bm, hBB, hMM, hU1, hU2, hU3⟩ := HX.out _ hZ; obtain ⟨p0, p1, p2, p3, p4, p5, p6, p7⟩ := blk_f8 bm) | (go_at_call 119; refine (HU.out _ hU1 hU2).mono ?_; rintro e w2 ⟨rfl, hC2⟩; have hZ := hZ.trans (hC2.mono hZ.size); obtain ⟨bm, hBB, hMM, hU1, hU2, hU3⟩ := HX.out _ hZ; obtain ⟨p0, p1, p2, p3, p4, p5, p6, p7⟩ := blk_f8 bm) | (go_at_call 120; refine (HT.out _ hU3).mono ?_; rintro e w3 ⟨rfl, hC3⟩; have hZ := hZ.trans (hC3.mono hZ.size); obtain ⟨bm, hBB, hMM, hU1, hU2, hU3⟩ := HX.out _ hZ; obtain ⟨p0, p1, p2, p3, p4, p5, p6, p7⟩ := blk_f8 bm))
  go_ret
  exact ⟨by first | rfl | exact ret_int (by assumption), hBB⟩
end Go.Proofs.YtipdiddjhimdcaaGreatDoor
