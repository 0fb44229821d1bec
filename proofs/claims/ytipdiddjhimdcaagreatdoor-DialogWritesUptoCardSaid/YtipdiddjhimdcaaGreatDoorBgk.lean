/- Contracts of Go functions, and plain laws. No condition but those told. -/
import Derived.Test.YtipdiddjhimdcaaGreatDoorPlo
import Derived.Deep.RegionHeld3
import Derived.Deep.CutRange
import Derived.Deep.Cut
set_option linter.unusedSimpArgs false
set_option linter.unusedVariables false
set_option maxRecDepth 100000
namespace Go.Proofs.YtipdiddjhimdcaaGreatDoor
open Go.RowKit Go.Sort
theorem Strs.fresh9 {w : World} {B : Nat} {e : TypeId} {v : Value} {L : List (List UInt8)} (h : Strs w B e v L) : Fresh B v := by
 rcases h.2 with ⟨rfl, _⟩ | ⟨g, cap, cur, rfl, hb, _⟩
 ·exact Fresh.nil _ _ _
 ·intro a n c e
  injection e with e
  injection e with e
  rw [← e]; exact hb
theorem RStrs.form9 {w : World} {v : Value} {L : List (List UInt8)} (h : RStrs w v L) : ∃ ao c, v = .slice ao L.length c := by
 obtain ⟨ao, c, rfl, _⟩ := h.form; exact ⟨ao, c, rfl⟩
theorem RPrms.form1 {w : World} {v : Value} {L : List Prm} {p : Prm} (h : RPrms w v (L ++ [p])) : ∃ ao c, v = .slice ao (L.length + 1) c := by
 obtain ⟨ao, c, rfl⟩ := h.form'
 exact ⟨ao, c, by rw [List.length_append]; rfl⟩
theorem leafA {w w0 y1 y2 y3 y4 : World} {g : Nat} {r : Rq} {c : Adr} {T : ByteArray} {v1 v2 v3 v4 v5 v6 v7 v8 v9 : Option Addr} {x1 x2 x3 x4 x5 x6 x7 x8 x9 : Nat} (bx : Blk y4 g 34 #[(.string ⟨#[]⟩), (.string ⟨#[]⟩), (.string ⟨#[]⟩), (.string ⟨#[]⟩), (.string ⟨#[]⟩), (.int .i64 0), (.slice none 0 0), (.slice none 0 0), (.slice none 0 0), (.string ⟨#[]⟩), (.string ⟨#[]⟩), (.string ⟨#[]⟩), (.string ⟨#[]⟩), (.int .i64 0), (.slice none 0 0), (.slice none 0 0), (.slice none 0 0), (.string ⟨#[]⟩), (.string ⟨#[]⟩), (.string ⟨#[]⟩), (.int .i64 0), (.slice none 0 0), (.slice none 0 0), (.slice none 0 0), (.int .i64 0), (.int .i64 0)])
  (H1 : RPrms y1 (.slice v1 r.dst.uri.ps.length x1) r.dst.uri.ps ∧ RPrms y1 (.slice v2 r.dst.uri.hs.length x2) r.dst.uri.hs ∧ RPrms y1 (.slice v3 (r.dst.ps.length + 1) x3) (r.dst.ps ++ [(⟨nTag, us T, true⟩ : Prm)]))
  (H2 : RPrms y2 (.slice v4 r.fr.uri.ps.length x4) r.fr.uri.ps ∧ RPrms y2 (.slice v5 r.fr.uri.hs.length x5) r.fr.uri.hs ∧ RPrms y2 (.slice v6 r.fr.ps.length x6) r.fr.ps)
  (H3 : RPrms y3 (.slice v7 c.uri.ps.length x7) c.uri.ps ∧ RPrms y3 (.slice v8 c.uri.hs.length x8) c.uri.hs)
  (H4 : RStrs y4 (.slice v9 r.routes.length x9) r.routes)
  (K1 : Below y1.heap.size y1 y4) (K2 : Below y2.heap.size y2 y4) (K3 : Below y3.heap.size y3 y4)
  (o9 : Off g (.slice v9 r.routes.length x9)) (hgz : w0.heap.size ≤ g) (hZ : Below w0.heap.size w0 y4) {s6 : Value} {wf : World} (q9 : Off (w.heap.size + 1) (.slice v9 r.routes.length x9)) (hs6 : s6 = .pointer (some ⟨g, 0, none⟩)) (hwf : wf = y4.setRow g #[.string (bs r.call), .string (bs r.dst.disp), .string (bs r.dst.uri.scheme), .string (bs r.dst.uri.user), .string (bs r.dst.uri.host), .int .i64 r.dst.uri.port, .slice v1 r.dst.uri.ps.length x1, .slice v2 r.dst.uri.hs.length x2, .slice v3 (r.dst.ps.length + 1) x3, .string (bs r.fr.disp), .string (bs r.fr.uri.scheme), .string (bs r.fr.uri.user), .string (bs r.fr.uri.host), .int .i64 r.fr.uri.port, .slice v4 r.fr.uri.ps.length x4, .slice v5 r.fr.uri.hs.length x5, .slice v6 r.fr.ps.length x6, .string (bs c.uri.scheme), .string (bs c.uri.user), .string (bs c.uri.host), .int .i64 c.uri.port, .slice v7 c.uri.ps.length x7, .slice v8 c.uri.hs.length x8, .slice v9 r.routes.length x9, .int .i64 r.seq, .int .i64 0]) :
  ∃ (g : Nat) (v1 : Option Addr) (x1 : Nat) (v2 : Option Addr) (x2 : Nat) (v3 : Option Addr) (x3 : Nat) (v4 : Option Addr) (x4 : Nat) (v5 : Option Addr) (x5 : Nat) (v6 : Option Addr) (x6 : Nat) (v7 : Option Addr) (x7 : Nat) (v8 : Option Addr) (x8 : Nat) (v9 : Option Addr) (x9 : Nat), s6 = .pointer (some ⟨g, 0, none⟩) ∧ Blk wf g 34 #[.string (bs r.call), .string (bs r.dst.disp), .string (bs r.dst.uri.scheme), .string (bs r.dst.uri.user), .string (bs r.dst.uri.host), .int .i64 r.dst.uri.port, .slice v1 r.dst.uri.ps.length x1, .slice v2 r.dst.uri.hs.length x2, .slice v3 (r.dst.ps.length + 1) x3, .string (bs r.fr.disp), .string (bs r.fr.uri.scheme), .string (bs r.fr.uri.user), .string (bs r.fr.uri.host), .int .i64 r.fr.uri.port, .slice v4 r.fr.uri.ps.length x4, .slice v5 r.fr.uri.hs.length x5, .slice v6 r.fr.ps.length x6, .string (bs c.uri.scheme), .string (bs c.uri.user), .string (bs c.uri.host), .int .i64 c.uri.port, .slice v7 c.uri.ps.length x7, .slice v8 c.uri.hs.length x8, .slice v9 r.routes.length x9, .int .i64 r.seq, .int .i64 0] ∧ w0.heap.size ≤ g ∧ Below w0.heap.size w0 wf ∧ RPrms wf (.slice v1 r.dst.uri.ps.length x1) r.dst.uri.ps ∧ RPrms wf (.slice v2 r.dst.uri.hs.length x2) r.dst.uri.hs ∧ RPrms wf (.slice v3 (r.dst.ps.length + 1) x3) (r.dst.ps ++ [(⟨nTag, us T, true⟩ : Prm)]) ∧ RPrms wf (.slice v4 r.fr.uri.ps.length x4) r.fr.uri.ps ∧ RPrms wf (.slice v5 r.fr.uri.hs.length x5) r.fr.uri.hs ∧ RPrms wf (.slice v6 r.fr.ps.length x6) r.fr.ps ∧ RPrms wf (.slice v7 c.uri.ps.length x7) c.uri.ps ∧ RPrms wf (.slice v8 c.uri.hs.length x8) c.uri.hs ∧ RStrs wf (.slice v9 r.routes.length x9) r.routes ∧ Off (w.heap.size + 1) (.slice v9 r.routes.length x9) := by
 subst hs6 hwf
 have hf := fun k hk => setRow_far y4 g #[.string (bs r.call), .string (bs r.dst.disp), .string (bs r.dst.uri.scheme), .string (bs r.dst.uri.user), .string (bs r.dst.uri.host), .int .i64 r.dst.uri.port, .slice v1 r.dst.uri.ps.length x1, .slice v2 r.dst.uri.hs.length x2, .slice v3 (r.dst.ps.length + 1) x3, .string (bs r.fr.disp), .string (bs r.fr.uri.scheme), .string (bs r.fr.uri.user), .string (bs r.fr.uri.host), .int .i64 r.fr.uri.port, .slice v4 r.fr.uri.ps.length x4, .slice v5 r.fr.uri.hs.length x5, .slice v6 r.fr.ps.length x6, .string (bs c.uri.scheme), .string (bs c.uri.user), .string (bs c.uri.host), .int .i64 c.uri.port, .slice v7 c.uri.ps.length x7, .slice v8 c.uri.hs.length x8, .slice v9 r.routes.length x9, .int .i64 r.seq, .int .i64 0] k hk
 have hs : y4.heap.size ≤ (y4.setRow g #[.string (bs r.call), .string (bs r.dst.disp), .string (bs r.dst.uri.scheme), .string (bs r.dst.uri.user), .string (bs r.dst.uri.host), .int .i64 r.dst.uri.port, .slice v1 r.dst.uri.ps.length x1, .slice v2 r.dst.uri.hs.length x2, .slice v3 (r.dst.ps.length + 1) x3, .string (bs r.fr.disp), .string (bs r.fr.uri.scheme), .string (bs r.fr.uri.user), .string (bs r.fr.uri.host), .int .i64 r.fr.uri.port, .slice v4 r.fr.uri.ps.length x4, .slice v5 r.fr.uri.hs.length x5, .slice v6 r.fr.ps.length x6, .string (bs c.uri.scheme), .string (bs c.uri.user), .string (bs c.uri.host), .int .i64 c.uri.port, .slice v7 c.uri.ps.length x7, .slice v8 c.uri.hs.length x8, .slice v9 r.routes.length x9, .int .i64 r.seq, .int .i64 0]).heap.size := Nat.le_of_eq (setRow_size y4 g _).symm
 have go : ∀ {y : World} {v : Value} {L : List Prm}, RPrms y v L → Below y.heap.size y y4 → RPrms (y4.setRow g #[.string (bs r.call), .string (bs r.dst.disp), .string (bs r.dst.uri.scheme), .string (bs r.dst.uri.user), .string (bs r.dst.uri.host), .int .i64 r.dst.uri.port, .slice v1 r.dst.uri.ps.length x1, .slice v2 r.dst.uri.hs.length x2, .slice v3 (r.dst.ps.length + 1) x3, .string (bs r.fr.disp), .string (bs r.fr.uri.scheme), .string (bs r.fr.uri.user), .string (bs r.fr.uri.host), .int .i64 r.fr.uri.port, .slice v4 r.fr.uri.ps.length x4, .slice v5 r.fr.uri.hs.length x5, .slice v6 r.fr.ps.length x6, .string (bs c.uri.scheme), .string (bs c.uri.user), .string (bs c.uri.host), .int .i64 c.uri.port, .slice v7 c.uri.ps.length x7, .slice v8 c.uri.hs.length x8, .slice v9 r.routes.length x9, .int .i64 r.seq, .int .i64 0]) v L := fun h K => Off.prms (h.below K (ρ _)) (Off.noBool (h.below K (ρ _)) bx (by kernel_rfl)) hf hs
 exact ⟨g, v1, x1, v2, x2, v3, x3, v4, x4, v5, x5, v6, x6, v7, x7, v8, x8, v9, x9, rfl, bx.row _, hgz, Below.setRow hZ hgz _, go H1.1 K1, go H1.2.1 K1, go H1.2.2 K1, go H2.1 K2, go H2.2.1 K2, go H2.2.2 K2, go H3.1 K3, go H3.2 K3, Off.strs H4 o9 hf hs, q9⟩
theorem leafB {w w0 y1 y2 y3 y4 : World} {r : Rq} {c : Adr} {T : ByteArray} {v1 v2 v3 v4 v5 v6 v7 v8 v9 : Option Addr} {x1 x2 x3 x4 x5 x6 x7 x8 x9 : Nat}
  (H1 : RPrms y1 (.slice v1 r.dst.uri.ps.length x1) r.dst.uri.ps ∧ RPrms y1 (.slice v2 r.dst.uri.hs.length x2) r.dst.uri.hs ∧ RPrms y1 (.slice v3 (r.dst.ps.length + 1) x3) (r.dst.ps ++ [(⟨nTag, us T, true⟩ : Prm)]))
  (H2 : RPrms y2 (.slice v4 r.fr.uri.ps.length x4) r.fr.uri.ps ∧ RPrms y2 (.slice v5 r.fr.uri.hs.length x5) r.fr.uri.hs ∧ RPrms y2 (.slice v6 r.fr.ps.length x6) r.fr.ps)
  (H3 : RPrms y3 (.slice v7 c.uri.ps.length x7) c.uri.ps ∧ RPrms y3 (.slice v8 c.uri.hs.length x8) c.uri.hs)
  (H4 : RStrs y4 (.slice v9 r.routes.length x9) r.routes)
  (K1 : Below y1.heap.size y1 y4) (K2 : Below y2.heap.size y2 y4) (K3 : Below y3.heap.size y3 y4)
  (o9 : Off y4.heap.size (.slice v9 r.routes.length x9)) (hgz : w0.heap.size ≤ y4.heap.size) (hZ : Below w0.heap.size w0 y4) {s6 : Value} {wf : World} (q9 : Off (w.heap.size + 1) (.slice v9 r.routes.length x9)) (hs6 : s6 = .pointer (some ⟨y4.heap.size, 0, none⟩)) (hwf : wf = (y4.alloc (.cells #[(.string ⟨#[]⟩), (.string ⟨#[]⟩), (.string ⟨#[]⟩), (.string ⟨#[]⟩), (.string ⟨#[]⟩), (.int .i64 0), (.slice none 0 0), (.slice none 0 0), (.slice none 0 0), (.string ⟨#[]⟩), (.string ⟨#[]⟩), (.string ⟨#[]⟩), (.string ⟨#[]⟩), (.int .i64 0), (.slice none 0 0), (.slice none 0 0), (.slice none 0 0), (.string ⟨#[]⟩), (.string ⟨#[]⟩), (.string ⟨#[]⟩), (.int .i64 0), (.slice none 0 0), (.slice none 0 0), (.slice none 0 0), (.int .i64 0), (.int .i64 0)] 34)).setRow y4.heap.size #[.string (bs r.call), .string (bs r.dst.disp), .string (bs r.dst.uri.scheme), .string (bs r.dst.uri.user), .string (bs r.dst.uri.host), .int .i64 r.dst.uri.port, .slice v1 r.dst.uri.ps.length x1, .slice v2 r.dst.uri.hs.length x2, .slice v3 (r.dst.ps.length + 1) x3, .string (bs r.fr.disp), .string (bs r.fr.uri.scheme), .string (bs r.fr.uri.user), .string (bs r.fr.uri.host), .int .i64 r.fr.uri.port, .slice v4 r.fr.uri.ps.length x4, .slice v5 r.fr.uri.hs.length x5, .slice v6 r.fr.ps.length x6, .string (bs c.uri.scheme), .string (bs c.uri.user), .string (bs c.uri.host), .int .i64 c.uri.port, .slice v7 c.uri.ps.length x7, .slice v8 c.uri.hs.length x8, .slice v9 r.routes.length x9, .int .i64 r.seq, .int .i64 0]) :
  ∃ (g : Nat) (v1 : Option Addr) (x1 : Nat) (v2 : Option Addr) (x2 : Nat) (v3 : Option Addr) (x3 : Nat) (v4 : Option Addr) (x4 : Nat) (v5 : Option Addr) (x5 : Nat) (v6 : Option Addr) (x6 : Nat) (v7 : Option Addr) (x7 : Nat) (v8 : Option Addr) (x8 : Nat) (v9 : Option Addr) (x9 : Nat), s6 = .pointer (some ⟨g, 0, none⟩) ∧ Blk wf g 34 #[.string (bs r.call), .string (bs r.dst.disp), .string (bs r.dst.uri.scheme), .string (bs r.dst.uri.user), .string (bs r.dst.uri.host), .int .i64 r.dst.uri.port, .slice v1 r.dst.uri.ps.length x1, .slice v2 r.dst.uri.hs.length x2, .slice v3 (r.dst.ps.length + 1) x3, .string (bs r.fr.disp), .string (bs r.fr.uri.scheme), .string (bs r.fr.uri.user), .string (bs r.fr.uri.host), .int .i64 r.fr.uri.port, .slice v4 r.fr.uri.ps.length x4, .slice v5 r.fr.uri.hs.length x5, .slice v6 r.fr.ps.length x6, .string (bs c.uri.scheme), .string (bs c.uri.user), .string (bs c.uri.host), .int .i64 c.uri.port, .slice v7 c.uri.ps.length x7, .slice v8 c.uri.hs.length x8, .slice v9 r.routes.length x9, .int .i64 r.seq, .int .i64 0] ∧ w0.heap.size ≤ g ∧ Below w0.heap.size w0 wf ∧ RPrms wf (.slice v1 r.dst.uri.ps.length x1) r.dst.uri.ps ∧ RPrms wf (.slice v2 r.dst.uri.hs.length x2) r.dst.uri.hs ∧ RPrms wf (.slice v3 (r.dst.ps.length + 1) x3) (r.dst.ps ++ [(⟨nTag, us T, true⟩ : Prm)]) ∧ RPrms wf (.slice v4 r.fr.uri.ps.length x4) r.fr.uri.ps ∧ RPrms wf (.slice v5 r.fr.uri.hs.length x5) r.fr.uri.hs ∧ RPrms wf (.slice v6 r.fr.ps.length x6) r.fr.ps ∧ RPrms wf (.slice v7 c.uri.ps.length x7) c.uri.ps ∧ RPrms wf (.slice v8 c.uri.hs.length x8) c.uri.hs ∧ RStrs wf (.slice v9 r.routes.length x9) r.routes ∧ Off (w.heap.size + 1) (.slice v9 r.routes.length x9) :=
 leafA (Blk.new y4 34 #[(.string ⟨#[]⟩), (.string ⟨#[]⟩), (.string ⟨#[]⟩), (.string ⟨#[]⟩), (.string ⟨#[]⟩), (.int .i64 0), (.slice none 0 0), (.slice none 0 0), (.slice none 0 0), (.string ⟨#[]⟩), (.string ⟨#[]⟩), (.string ⟨#[]⟩), (.string ⟨#[]⟩), (.int .i64 0), (.slice none 0 0), (.slice none 0 0), (.slice none 0 0), (.string ⟨#[]⟩), (.string ⟨#[]⟩), (.string ⟨#[]⟩), (.int .i64 0), (.slice none 0 0), (.slice none 0 0), (.slice none 0 0), (.int .i64 0), (.int .i64 0)]) H1 H2 H3 (H4.below ((Below.refl _ _).alloc (ρ _) _) (ρ _)) (K1.alloc K1.size _) (K2.alloc K2.size _) (K3.alloc K3.size _) o9 hgz (hZ.alloc hZ.size _) q9 hs6 hwf
set_option maxHeartbeats 12800000 in
theorem begin_k (rs : Array Value) (T : ByteArray) (r : Rq) (w : World) (hm : Ml w) (hr : RReq w (.agg rs) r) (hb : RqB r) (hT : T.size ≤ 4294967280)
  (hk9 : r.toT = [] ∧ r.fromT ≠ [] ∧ token (us T) = true ∧ r.contact.length = 1 ∧ checkA (taggedS r.dst (us T)) = 0) :
  Calls Tryz.prog 10 #[.agg rs, .string T] w fun e w' => ∃ xs : Array Value, e = .returned (.tuple #[.agg xs, .int .i64 (beginS r (us T)).2]) ∧ RDlg w' (.agg xs) (beginS r (us T)).1 ∧ Below w.heap.size w w' := by
 obtain ⟨c0, c1, c2, c3, c4, c5, c6, c7, c8, c9, c10, c11, c12, c13, c14, c15, e1, y1, e2, y2, e3, y3, e4, y4, e5, y5, e6, y6, e7, y7, e8, y8, ers, h1, h2, h3, h4, h5, h6, h7, h8⟩ := hr.lit
 injection ers with ers
 obtain ⟨⟨_, _, _, _, _, _, l1, l2, l3⟩, ⟨d1, d2, d3, d4, d5, d6, l4, l5, l6⟩, hbc, l7, lt, lf⟩ := hb
 obtain ⟨_, _, ec, hcm, _⟩ := h7.form
 unfold maxLen at hcm
 clear ec
 have HM := κ hm
 have HTG := κ (fun (wx : World) (h : Below w.heap.size w wx) => tagged_c (bs r.dst.disp) (bs r.dst.uri.scheme) (bs r.dst.uri.user) (bs r.dst.uri.host) r.dst.uri.port _ _ _ r.dst.uri.ps r.dst.uri.hs r.dst.ps T wx (h4.below h (ρ _)) (h5.below h (ρ _)) (h6.below h (ρ _)) l4 l5 l6)
 have HOW := κ (fun (wx : World) (h : Below w.heap.size w wx) => own_c (bs r.fr.disp) (bs r.fr.uri.scheme) (bs r.fr.uri.user) (bs r.fr.uri.host) r.fr.uri.port _ _ _ r.fr.uri.ps r.fr.uri.hs r.fr.ps wx (h1.below h (ρ _)) (h2.below h (ρ _)) (h3.below h (ρ _)) l1 l2 l3)
 have HCS := κ (fun (wx : World) (h : Below w.heap.size w wx) => cloneS_c _ r.routes wx (h8.below h (ρ _)) l7)
 have HCK := κ (fun wx u1 u2 u3 hx h1 h2 h3 => checkA_c (bs r.dst.disp) (bs r.dst.uri.scheme) (bs r.dst.uri.user) (bs r.dst.uri.host) r.dst.uri.port u1 u2 u3 r.dst.uri.ps r.dst.uri.hs (r.dst.ps ++ [⟨nTag, us T, true⟩]) (by rw [size_bs]; exact d1) (by rw [size_bs]; exact d2) (by rw [size_bs]; exact d3) wx hx h1 h2 h3 d4 d5 (by
  intro p hp
  rcases List.mem_append.1 hp with h | h
  ·exact d6 p h
  ·rw [List.mem_singleton.1 h]; exact ⟨by show nTag.length ≤ _; decide, by dsimp only; rw [length_us]; exact hT⟩))
 rw [us_bs, us_bs, us_bs, us_bs] at HCK
 have hB0 : Below w.heap.size w ((w.alloc (.cells rs 32)).alloc (.cells #[(.string ⟨#[]⟩), (.string ⟨#[]⟩), (.string ⟨#[]⟩), (.string ⟨#[]⟩), (.string ⟨#[]⟩), (.int .i64 0), (.slice none 0 0), (.slice none 0 0), (.slice none 0 0), (.string ⟨#[]⟩), (.string ⟨#[]⟩), (.string ⟨#[]⟩), (.string ⟨#[]⟩), (.int .i64 0), (.slice none 0 0), (.slice none 0 0), (.slice none 0 0), (.string ⟨#[]⟩), (.string ⟨#[]⟩), (.string ⟨#[]⟩), (.int .i64 0), (.slice none 0 0), (.slice none 0 0), (.slice none 0 0), (.int .i64 0), (.int .i64 0)] 34)) := ((Below.refl _ _).alloc (ρ _) _).alloc (by rw [World.size_alloc]; omega) _
 have br0 : Blk ((w.alloc (.cells rs 32)).alloc (.cells #[(.string ⟨#[]⟩), (.string ⟨#[]⟩), (.string ⟨#[]⟩), (.string ⟨#[]⟩), (.string ⟨#[]⟩), (.int .i64 0), (.slice none 0 0), (.slice none 0 0), (.slice none 0 0), (.string ⟨#[]⟩), (.string ⟨#[]⟩), (.string ⟨#[]⟩), (.string ⟨#[]⟩), (.int .i64 0), (.slice none 0 0), (.slice none 0 0), (.slice none 0 0), (.string ⟨#[]⟩), (.string ⟨#[]⟩), (.string ⟨#[]⟩), (.int .i64 0), (.slice none 0 0), (.slice none 0 0), (.slice none 0 0), (.int .i64 0), (.int .i64 0)] 34)) (w.heap.size) 32 rs := (Blk.new w 32 rs).alloc _
 have bz0 : Blk ((w.alloc (.cells rs 32)).alloc (.cells #[(.string ⟨#[]⟩), (.string ⟨#[]⟩), (.string ⟨#[]⟩), (.string ⟨#[]⟩), (.string ⟨#[]⟩), (.int .i64 0), (.slice none 0 0), (.slice none 0 0), (.slice none 0 0), (.string ⟨#[]⟩), (.string ⟨#[]⟩), (.string ⟨#[]⟩), (.string ⟨#[]⟩), (.int .i64 0), (.slice none 0 0), (.slice none 0 0), (.slice none 0 0), (.string ⟨#[]⟩), (.string ⟨#[]⟩), (.string ⟨#[]⟩), (.int .i64 0), (.slice none 0 0), (.slice none 0 0), (.slice none 0 0), (.int .i64 0), (.int .i64 0)] 34)) (w.heap.size + 1) 34 #[(.string ⟨#[]⟩), (.string ⟨#[]⟩), (.string ⟨#[]⟩), (.string ⟨#[]⟩), (.string ⟨#[]⟩), (.int .i64 0), (.slice none 0 0), (.slice none 0 0), (.slice none 0 0), (.string ⟨#[]⟩), (.string ⟨#[]⟩), (.string ⟨#[]⟩), (.string ⟨#[]⟩), (.int .i64 0), (.slice none 0 0), (.slice none 0 0), (.slice none 0 0), (.string ⟨#[]⟩), (.string ⟨#[]⟩), (.string ⟨#[]⟩), (.int .i64 0), (.slice none 0 0), (.slice none 0 0), (.slice none 0 0), (.int .i64 0), (.int .i64 0)] := by
  have := Blk.new (w.alloc (.cells rs 32)) 34 #[(.string ⟨#[]⟩), (.string ⟨#[]⟩), (.string ⟨#[]⟩), (.string ⟨#[]⟩), (.string ⟨#[]⟩), (.int .i64 0), (.slice none 0 0), (.slice none 0 0), (.slice none 0 0), (.string ⟨#[]⟩), (.string ⟨#[]⟩), (.string ⟨#[]⟩), (.string ⟨#[]⟩), (.int .i64 0), (.slice none 0 0), (.slice none 0 0), (.slice none 0 0), (.string ⟨#[]⟩), (.string ⟨#[]⟩), (.string ⟨#[]⟩), (.int .i64 0), (.slice none 0 0), (.slice none 0 0), (.slice none 0 0), (.int .i64 0), (.int .i64 0)]
  rwa [World.size_alloc] at this
 obtain ⟨w0, hw0⟩ : ∃ w0, w0 = ((w.alloc (.cells rs 32)).alloc (.cells #[(.string ⟨#[]⟩), (.string ⟨#[]⟩), (.string ⟨#[]⟩), (.string ⟨#[]⟩), (.string ⟨#[]⟩), (.int .i64 0), (.slice none 0 0), (.slice none 0 0), (.slice none 0 0), (.string ⟨#[]⟩), (.string ⟨#[]⟩), (.string ⟨#[]⟩), (.string ⟨#[]⟩), (.int .i64 0), (.slice none 0 0), (.slice none 0 0), (.slice none 0 0), (.string ⟨#[]⟩), (.string ⟨#[]⟩), (.string ⟨#[]⟩), (.int .i64 0), (.slice none 0 0), (.slice none 0 0), (.slice none 0 0), (.int .i64 0), (.int .i64 0)] 34)) := ⟨_, rfl⟩
 rw [← hw0] at hB0 br0 bz0
 have HW0 := κ hw0
 have HX := κ (fun (wx : World) (h : Below w0.heap.size w0 wx) => (show wx.cell? ⟨w.heap.size, 9, none⟩ = some (.string (bs r.fr.disp)) ∧ wx.cell? ⟨w.heap.size, 10, none⟩ = some (.string (bs r.fr.uri.scheme)) ∧ wx.cell? ⟨w.heap.size, 11, none⟩ = some (.string (bs r.fr.uri.user)) ∧ wx.cell? ⟨w.heap.size, 12, none⟩ = some (.string (bs r.fr.uri.host)) ∧ wx.cell? ⟨w.heap.size, 13, none⟩ = some (.int .i64 r.fr.uri.port) ∧ wx.cell? ⟨w.heap.size, 14, none⟩ = some (.slice e1 r.fr.uri.ps.length y1) ∧ wx.cell? ⟨w.heap.size, 15, none⟩ = some (.slice e2 r.fr.uri.hs.length y2) ∧ wx.cell? ⟨w.heap.size, 16, none⟩ = some (.slice e3 r.fr.ps.length y3) ∧ wx.cell? ⟨w.heap.size, 17, none⟩ = some (.string (bs r.dst.disp)) ∧ wx.cell? ⟨w.heap.size, 18, none⟩ = some (.string (bs r.dst.uri.scheme)) ∧ wx.cell? ⟨w.heap.size, 19, none⟩ = some (.string (bs r.dst.uri.user)) ∧ wx.cell? ⟨w.heap.size, 20, none⟩ = some (.string (bs r.dst.uri.host)) ∧ wx.cell? ⟨w.heap.size, 21, none⟩ = some (.int .i64 r.dst.uri.port) ∧ wx.cell? ⟨w.heap.size, 22, none⟩ = some (.slice e4 r.dst.uri.ps.length y4) ∧ wx.cell? ⟨w.heap.size, 23, none⟩ = some (.slice e5 r.dst.uri.hs.length y5) ∧ wx.cell? ⟨w.heap.size, 24, none⟩ = some (.slice e6 r.dst.ps.length y6) ∧ wx.cell? ⟨w.heap.size, 25, none⟩ = some (.string (bs r.fromT)) ∧ wx.cell? ⟨w.heap.size, 26, none⟩ = some (.string (bs r.toT)) ∧ wx.cell? ⟨w.heap.size, 27, none⟩ = some (.string (bs r.call)) ∧ wx.cell? ⟨w.heap.size, 28, none⟩ = some (.int .i64 r.seq) ∧ wx.cell? ⟨w.heap.size, 32, none⟩ = some (.slice e7 r.contact.length y7) ∧ wx.cell? ⟨w.heap.size, 33, none⟩ = some (.slice e8 r.routes.length y8) from by
  have b := br0.call h
  rw [ers] at b
  exact ⟨boxedCell b 9, boxedCell b 10, boxedCell b 11, boxedCell b 12, boxedCell b 13, boxedCell b 14, boxedCell b 15, boxedCell b 16, boxedCell b 17, boxedCell b 18, boxedCell b 19, boxedCell b 20, boxedCell b 21, boxedCell b 22, boxedCell b 23, boxedCell b 24, boxedCell b 25, boxedCell b 26, boxedCell b 27, boxedCell b 28, boxedCell b 32, boxedCell b 33⟩))
 have HBZ := κ bz0
 have HB := κ hB0
 have hZ : Below w0.heap.size w0 w0 := Below.refl _ _
 obtain ⟨p9, p10, p11, p12, p13, p14, p15, p16, p17, p18, p19, p20, p21, p22, p23, p24, p25, p26, p27, p28, p32, p33⟩ := HX.out _ hZ
 have hcs := beginS_cases r (us T)
 rw [show checkA (⟨r.dst.disp, ⟨r.dst.uri.scheme, r.dst.uri.user, r.dst.uri.host, r.dst.uri.port, r.dst.uri.ps, r.dst.uri.hs⟩, r.dst.ps ++ [⟨nTag, us T, true⟩]⟩ : Adr) = checkA (taggedS r.dst (us T)) from rfl] at HCK
 obtain ⟨C, hC⟩ : ∃ C, C = checkA (taggedS r.dst (us T)) := ⟨_, rfl⟩
 rw [← hC] at HCK hcs hk9
 clear hC
 obtain ⟨TT, hTT⟩ : ∃ x, x = bs r.toT := ⟨_, rfl⟩
 obtain ⟨FT, hFT⟩ : ∃ x, x = bs r.fromT := ⟨_, rfl⟩
 have ett : r.toT = [] ↔ TT.size = 0 := by rw [hTT, size_bs, List.length_eq_zero_iff]
 have eft : r.fromT = [] ↔ FT.size = 0 := by rw [hFT, size_bs, List.length_eq_zero_iff]
 simp only [← hTT] at p26 HX
 simp only [← hFT] at p25 HX
 simp only [ne_eq, ett, eft] at hcs hk9
 have HK9 := κ hk9
 clear hk9
 have hT2 : T.size ≤ 9223372036854775807 := by omega
 have HTK := κ (fun wx => token_c T hT2 wx)
 have H7 := κ h7
 clear hw0 hB0 br0 bz0 ers h1 h2 h3 h4 h5 h6 h7 h8 l1 l2 l3 l4 l5 l6 l7 d1 d2 d3 d4 d5 d6 hm hr hTT hFT ett eft lt lf hT hT2
 rcases hcs with ⟨ht, hR⟩ | ⟨ht, hf, hR⟩ | ⟨ht, hf, hk, hR⟩ | ⟨ht, hf, hk, hl, hR⟩ | ⟨ht, hf, hk, c, hc, hR⟩
 ·exact absurd HK9.out.1 ht
 ·exact absurd hf HK9.out.2.1
 ·exact absurd (HK9.out.2.2.1.symm.trans hk) (by decide)
 ·exact absurd HK9.out.2.2.2.1 hl
 ·obtain rfl := eq_empty ht
  have pE := ne_empty hf
  have pF := isEmpty_f hf
  rw [hk] at HTK
  have tl : r.contact.length = 1 := by rw [hc]; rfl
  obtain ⟨hbc1, hbc2⟩ := hbc c (by rw [hc]; exact List.mem_singleton.2 rfl)
  rw [hc] at H7
  rw [tl] at p32 HX
  clear ht hf hk tl hbc
  obtain ⟨ao2, cap2, e2, _, c2⟩ := H7.out.form
  obtain ⟨b, off, eb, hbl, hcc⟩ := c2 (by simp)
  obtain ⟨_, k1, k2, k3, k4, s1, s2, _, k5, k6, _, q1, q2, _⟩ := hcc 0 (by simp)
  simp only [Nat.zero_mul, Nat.add_zero, List.getElem_cons_zero] at k1 k2 k3 k4 k5 k6 q1 q2
  injection e2 with e2 _ _
  rw [eb] at e2
  subst e2
  clear eb hcc c2
  obtain ⟨n1, m1, rfl, _, _⟩ := q1.form
  obtain ⟨n2, m2, rfl, _, _⟩ := q2.form
  unfold sv at k1 k2 k3
  have HCN := κ (fun (wx : World) (h : Below w.heap.size w wx) => cloned_c (bs c.uri.scheme) (bs c.uri.user) (bs c.uri.host) c.uri.port _ _ c.uri.ps c.uri.hs wx (q1.below h (ρ _)) (q2.below h (ρ _)) hbc1 hbc2)
  have HK := κ (fun (wx : World) (h : Below w0.heap.size w0 wx) => (show wx.cell? ⟨b, off + 1, none⟩ = some (.string (bs c.uri.scheme)) ∧ wx.cell? ⟨b, off + 2, none⟩ = some (.string (bs c.uri.user)) ∧ wx.cell? ⟨b, off + 3, none⟩ = some (.string (bs c.uri.host)) ∧ wx.cell? ⟨b, off + 4, none⟩ = some (.int .i64 c.uri.port) ∧ wx.cell? ⟨b, off + 5, none⟩ = some (.slice n1 c.uri.ps.length m1) ∧ wx.cell? ⟨b, off + 6, none⟩ = some (.slice n2 c.uri.hs.length m2) from by
   have hcw : ∀ o, wx.cell? ⟨b, o, none⟩ = w.cell? ⟨b, o, none⟩ := fun o => World.cell?_of_block (w := w) (a := ⟨b, o, none⟩) ((HB.out.trans (h.mono HB.out.size)).block b hbl)
   rw [hcw, hcw, hcw, hcw, hcw, hcw]
   exact ⟨k1, k2, k3, k4, k5, k6⟩))
  clear k1 k2 k3 k4 k5 k6 q1 q2
  obtain ⟨k1, k2, k3, k4, k5, k6⟩ := HK.out _ hZ
  have HS := κ (fun (wx : World) (h : Below w0.heap.size w0 wx) => (show wx.cell? ⟨w.heap.size, 9, none⟩ = some (.string (bs r.fr.disp)) ∧ wx.cell? ⟨w.heap.size, 10, none⟩ = some (.string (bs r.fr.uri.scheme)) ∧ wx.cell? ⟨w.heap.size, 11, none⟩ = some (.string (bs r.fr.uri.user)) ∧ wx.cell? ⟨w.heap.size, 12, none⟩ = some (.string (bs r.fr.uri.host)) ∧ wx.cell? ⟨w.heap.size, 13, none⟩ = some (.int .i64 r.fr.uri.port) ∧ wx.cell? ⟨w.heap.size, 14, none⟩ = some (.slice e1 r.fr.uri.ps.length y1) ∧ wx.cell? ⟨w.heap.size, 15, none⟩ = some (.slice e2 r.fr.uri.hs.length y2) ∧ wx.cell? ⟨w.heap.size, 16, none⟩ = some (.slice e3 r.fr.ps.length y3) ∧ wx.cell? ⟨w.heap.size, 17, none⟩ = some (.string (bs r.dst.disp)) ∧ wx.cell? ⟨w.heap.size, 18, none⟩ = some (.string (bs r.dst.uri.scheme)) ∧ wx.cell? ⟨w.heap.size, 19, none⟩ = some (.string (bs r.dst.uri.user)) ∧ wx.cell? ⟨w.heap.size, 20, none⟩ = some (.string (bs r.dst.uri.host)) ∧ wx.cell? ⟨w.heap.size, 21, none⟩ = some (.int .i64 r.dst.uri.port) ∧ wx.cell? ⟨w.heap.size, 22, none⟩ = some (.slice e4 r.dst.uri.ps.length y4) ∧ wx.cell? ⟨w.heap.size, 23, none⟩ = some (.slice e5 r.dst.uri.hs.length y5) ∧ wx.cell? ⟨w.heap.size, 24, none⟩ = some (.slice e6 r.dst.ps.length y6) ∧ wx.cell? ⟨w.heap.size, 27, none⟩ = some (.string (bs r.call)) ∧ wx.cell? ⟨w.heap.size, 28, none⟩ = some (.int .i64 r.seq) ∧ wx.cell? ⟨w.heap.size, 32, none⟩ = some (.slice (some ⟨b, off, none⟩) 1 y7) ∧ wx.cell? ⟨w.heap.size, 33, none⟩ = some (.slice e8 r.routes.length y8) ∧ wx.cell? ⟨b, off + 1, none⟩ = some (.string (bs c.uri.scheme)) ∧ wx.cell? ⟨b, off + 2, none⟩ = some (.string (bs c.uri.user)) ∧ wx.cell? ⟨b, off + 3, none⟩ = some (.string (bs c.uri.host)) ∧ wx.cell? ⟨b, off + 4, none⟩ = some (.int .i64 c.uri.port) ∧ wx.cell? ⟨b, off + 5, none⟩ = some (.slice n1 c.uri.ps.length m1) ∧ wx.cell? ⟨b, off + 6, none⟩ = some (.slice n2 c.uri.hs.length m2) from by
   obtain ⟨g9, g10, g11, g12, g13, g14, g15, g16, g17, g18, g19, g20, g21, g22, g23, g24, g25, g26, g27, g28, g32, g33⟩ := HX.out wx h
   obtain ⟨i1, i2, i3, i4, i5, i6⟩ := HK.out wx h
   exact ⟨g9, g10, g11, g12, g13, g14, g15, g16, g17, g18, g19, g20, g21, g22, g23, g24, g27, g28, g32, g33, i1, i2, i3, i4, i5, i6⟩))
  have HBB := κ (fun (wx : World) (h : Below w0.heap.size w0 wx) => HB.out.trans (h.mono HB.out.size))
  go_enter Tryz.func10, Tryz.ntmps10
  go_upto_region 1 with fail
  rw [← HW0.out]
  go_upto_region 5 with (go_at_call 31; refine (HTK.out _).mono ?_; rintro e wx ⟨rfl, rfl⟩)
  go_cut [6] from 27 to 47 (fun s6 wx => ∃ (g : Nat) (v1 : Option Addr) (x1 : Nat) (v2 : Option Addr) (x2 : Nat) (v3 : Option Addr) (x3 : Nat) (v4 : Option Addr) (x4 : Nat) (v5 : Option Addr) (x5 : Nat) (v6 : Option Addr) (x6 : Nat) (v7 : Option Addr) (x7 : Nat) (v8 : Option Addr) (x8 : Nat) (v9 : Option Addr) (x9 : Nat), s6 = .pointer (some ⟨g, 0, none⟩) ∧ Blk wx g 34 #[.string (bs r.call), .string (bs r.dst.disp), .string (bs r.dst.uri.scheme), .string (bs r.dst.uri.user), .string (bs r.dst.uri.host), .int .i64 r.dst.uri.port, .slice v1 r.dst.uri.ps.length x1, .slice v2 r.dst.uri.hs.length x2, .slice v3 (r.dst.ps.length + 1) x3, .string (bs r.fr.disp), .string (bs r.fr.uri.scheme), .string (bs r.fr.uri.user), .string (bs r.fr.uri.host), .int .i64 r.fr.uri.port, .slice v4 r.fr.uri.ps.length x4, .slice v5 r.fr.uri.hs.length x5, .slice v6 r.fr.ps.length x6, .string (bs c.uri.scheme), .string (bs c.uri.user), .string (bs c.uri.host), .int .i64 c.uri.port, .slice v7 c.uri.ps.length x7, .slice v8 c.uri.hs.length x8, .slice v9 r.routes.length x9, .int .i64 r.seq, .int .i64 0] ∧ w0.heap.size ≤ g ∧ Below w0.heap.size w0 wx ∧ RPrms wx (.slice v1 r.dst.uri.ps.length x1) r.dst.uri.ps ∧ RPrms wx (.slice v2 r.dst.uri.hs.length x2) r.dst.uri.hs ∧ RPrms wx (.slice v3 (r.dst.ps.length + 1) x3) (r.dst.ps ++ [(⟨nTag, us T, true⟩ : Prm)]) ∧ RPrms wx (.slice v4 r.fr.uri.ps.length x4) r.fr.uri.ps ∧ RPrms wx (.slice v5 r.fr.uri.hs.length x5) r.fr.uri.hs ∧ RPrms wx (.slice v6 r.fr.ps.length x6) r.fr.ps ∧ RPrms wx (.slice v7 c.uri.ps.length x7) c.uri.ps ∧ RPrms wx (.slice v8 c.uri.hs.length x8) c.uri.hs ∧ RStrs wx (.slice v9 r.routes.length x9) r.routes ∧ Off (w.heap.size + 1) (.slice v9 r.routes.length x9))
  case first =>
   refine wp_region_held_drew (S := fun wx => wx.cell? ⟨w.heap.size, 9, none⟩ = some (.string (bs r.fr.disp)) ∧ wx.cell? ⟨w.heap.size, 10, none⟩ = some (.string (bs r.fr.uri.scheme)) ∧ wx.cell? ⟨w.heap.size, 11, none⟩ = some (.string (bs r.fr.uri.user)) ∧ wx.cell? ⟨w.heap.size, 12, none⟩ = some (.string (bs r.fr.uri.host)) ∧ wx.cell? ⟨w.heap.size, 13, none⟩ = some (.int .i64 r.fr.uri.port) ∧ wx.cell? ⟨w.heap.size, 14, none⟩ = some (.slice e1 r.fr.uri.ps.length y1) ∧ wx.cell? ⟨w.heap.size, 15, none⟩ = some (.slice e2 r.fr.uri.hs.length y2) ∧ wx.cell? ⟨w.heap.size, 16, none⟩ = some (.slice e3 r.fr.ps.length y3) ∧ wx.cell? ⟨w.heap.size, 17, none⟩ = some (.string (bs r.dst.disp)) ∧ wx.cell? ⟨w.heap.size, 18, none⟩ = some (.string (bs r.dst.uri.scheme)) ∧ wx.cell? ⟨w.heap.size, 19, none⟩ = some (.string (bs r.dst.uri.user)) ∧ wx.cell? ⟨w.heap.size, 20, none⟩ = some (.string (bs r.dst.uri.host)) ∧ wx.cell? ⟨w.heap.size, 21, none⟩ = some (.int .i64 r.dst.uri.port) ∧ wx.cell? ⟨w.heap.size, 22, none⟩ = some (.slice e4 r.dst.uri.ps.length y4) ∧ wx.cell? ⟨w.heap.size, 23, none⟩ = some (.slice e5 r.dst.uri.hs.length y5) ∧ wx.cell? ⟨w.heap.size, 24, none⟩ = some (.slice e6 r.dst.ps.length y6) ∧ wx.cell? ⟨w.heap.size, 27, none⟩ = some (.string (bs r.call)) ∧ wx.cell? ⟨w.heap.size, 28, none⟩ = some (.int .i64 r.seq) ∧ wx.cell? ⟨w.heap.size, 32, none⟩ = some (.slice (some ⟨b, off, none⟩) 1 y7) ∧ wx.cell? ⟨w.heap.size, 33, none⟩ = some (.slice e8 r.routes.length y8) ∧ wx.cell? ⟨b, off + 1, none⟩ = some (.string (bs c.uri.scheme)) ∧ wx.cell? ⟨b, off + 2, none⟩ = some (.string (bs c.uri.user)) ∧ wx.cell? ⟨b, off + 3, none⟩ = some (.string (bs c.uri.host)) ∧ wx.cell? ⟨b, off + 4, none⟩ = some (.int .i64 c.uri.port) ∧ wx.cell? ⟨b, off + 5, none⟩ = some (.slice n1 c.uri.ps.length m1) ∧ wx.cell? ⟨b, off + 6, none⟩ = some (.slice n2 c.uri.hs.length m2)) (by kernel_rfl) (HS.out _ (zDrew hZ)) (fun hHeld => ?_)
   refine tkH 0 ?_
   try simp only [Act.put, List.setIfInBounds_toArray, List.set_cons_zero, List.set_cons_succ]
   refine tkH 1 ?_
   try simp only [Act.put, List.setIfInBounds_toArray, List.set_cons_zero, List.set_cons_succ]
   refine tkH 2 ?_
   try simp only [Act.put, List.setIfInBounds_toArray, List.set_cons_zero, List.set_cons_succ]
   refine tkH 3 ?_
   try simp only [Act.put, List.setIfInBounds_toArray, List.set_cons_zero, List.set_cons_succ]
   refine tkH 4 ?_
   try simp only [Act.put, List.setIfInBounds_toArray, List.set_cons_zero, List.set_cons_succ]
   refine tkH 6 ?_
   try simp only [Act.put, List.setIfInBounds_toArray, List.set_cons_zero, List.set_cons_succ]
   refine tkH 7 ?_
   try simp only [Act.put, List.setIfInBounds_toArray, List.set_cons_zero, List.set_cons_succ]
   refine tkH 9 ?_
   try simp only [Act.put, List.setIfInBounds_toArray, List.set_cons_zero, List.set_cons_succ]
   refine tkH 10 ?_
   try simp only [Act.put, List.setIfInBounds_toArray, List.set_cons_zero, List.set_cons_succ]
   refine tkH 11 ?_
   try simp only [Act.put, List.setIfInBounds_toArray, List.set_cons_zero, List.set_cons_succ]
   refine tkH 12 ?_
   try simp only [Act.put, List.setIfInBounds_toArray, List.set_cons_zero, List.set_cons_succ]
   refine tkH 13 ?_
   try simp only [Act.put, List.setIfInBounds_toArray, List.set_cons_zero, List.set_cons_succ]
   refine tkH 15 ?_
   try simp only [Act.put, List.setIfInBounds_toArray, List.set_cons_zero, List.set_cons_succ]
   refine tkH 16 ?_
   try simp only [Act.put, List.setIfInBounds_toArray, List.set_cons_zero, List.set_cons_succ]
   refine tkH 18 ?_
   try simp only [Act.put, List.setIfInBounds_toArray, List.set_cons_zero, List.set_cons_succ]
   refine tkH 19 ?_
   try simp only [Act.put, List.setIfInBounds_toArray, List.set_cons_zero, List.set_cons_succ]
   refine wpAnyH_ready (rs := [5, 21]) (by kernel_rfl) (by simp) ?_
   refine AllReadyH.cons rfl (fun K hK => ?_) ?_
   ·
    go_simp
    go_at_call 32
    refine (HTG.out _ (by first | exact HBB.out _ hZ | exact HBB.out _ (zDrew hZ) | exact HBB.out _ (hZ.alloc hZ.size _) | exact HBB.out _ ((zDrew hZ).alloc (zDrew hZ).size _))).mono ?_
    rintro e y1 ⟨v1, v2, v3, rfl, R1, R2, R3, _, _, _, hC⟩
    obtain ⟨v1, x1, rfl⟩ := R1.form'
    obtain ⟨v2, x2, rfl⟩ := R2.form'
    obtain ⟨v3, x3, rfl⟩ := R3.form1
    (try have bx := bx.call hC)
    (try have bx := (Blk.new _ _ _).call hC)
    (try have bx := (Blk.drw (Blk.new _ _ _)).call hC)
    have hZ' : Below w0.heap.size w0 y1 := by first | exact zUp hZ hZ.size hC | exact zUp (zDrew hZ) (zDrew hZ).size hC | exact zUp (hZ.alloc hZ.size _) (hZ.alloc hZ.size _).size hC | exact zUp ((zDrew hZ).alloc (zDrew hZ).size _) ((zDrew hZ).alloc (zDrew hZ).size _).size hC
    clear hZ
    have hZ := hZ'
    clear hZ'
    have HR1 := κ (And.intro R1 (And.intro R2 R3))
    have hK1 : Below y1.heap.size y1 y1 := Below.refl _ _
    clear hC
    (try dsimp only)
    clear R1 R2 R3
    refine hK.out _ _ ?_ (fun hHeld => ?_)
    focus ((try dsimp only); first | exact HS.out _ hZ | exact HS.out _ (zDrew hZ) | exact HS.out _ (hZ.alloc hZ.size _) | exact HS.out _ ((zDrew hZ).alloc (zDrew hZ).size _) | exact HS.out _ (Below.setRow hZ hgz _) | exact HS.out _ (Below.setRow (hZ.alloc hZ.size _) hgz _))
    clear hK K
    try simp only [Act.put, List.setIfInBounds_toArray, List.set_cons_zero, List.set_cons_succ]
    refine wpAnyH_ready (rs := [8, 21]) (by kernel_rfl) (by simp) ?_
    refine AllReadyH.cons rfl (fun K hK => ?_) ?_
    ·
     go_simp
     go_at_call 33
     refine (HOW.out _ (by first | exact HBB.out _ hZ | exact HBB.out _ (zDrew hZ) | exact HBB.out _ (hZ.alloc hZ.size _) | exact HBB.out _ ((zDrew hZ).alloc (zDrew hZ).size _))).mono ?_
     rintro e y2 ⟨v4, v5, v6, rfl, R1, R2, R3, _, _, _, hC⟩
     obtain ⟨v4, x4, rfl⟩ := R1.form'
     obtain ⟨v5, x5, rfl⟩ := R2.form'
     obtain ⟨v6, x6, rfl⟩ := R3.form'
     (try have bx := bx.call hC)
     (try have bx := (Blk.new _ _ _).call hC)
     (try have bx := (Blk.drw (Blk.new _ _ _)).call hC)
     have hZ' : Below w0.heap.size w0 y2 := by first | exact zUp hZ hZ.size hC | exact zUp (zDrew hZ) (zDrew hZ).size hC | exact zUp (hZ.alloc hZ.size _) (hZ.alloc hZ.size _).size hC | exact zUp ((zDrew hZ).alloc (zDrew hZ).size _) ((zDrew hZ).alloc (zDrew hZ).size _).size hC
     clear hZ
     have hZ := hZ'
     clear hZ'
     have hK' : Below y1.heap.size y1 y2 := by first | exact zUp hK1 hK1.size hC | exact zUp (zDrew hK1) (zDrew hK1).size hC | exact zUp (hK1.alloc hK1.size _) (hK1.alloc hK1.size _).size hC | exact zUp ((zDrew hK1).alloc (zDrew hK1).size _) ((zDrew hK1).alloc (zDrew hK1).size _).size hC
     clear hK1
     have hK1 := hK'
     clear hK'
     have HR2 := κ (And.intro R1 (And.intro R2 R3))
     have hK2 : Below y2.heap.size y2 y2 := Below.refl _ _
     clear hC
     (try dsimp only)
     clear R1 R2 R3
     refine hK.out _ _ ?_ (fun hHeld => ?_)
     focus ((try dsimp only); first | exact HS.out _ hZ | exact HS.out _ (zDrew hZ) | exact HS.out _ (hZ.alloc hZ.size _) | exact HS.out _ ((zDrew hZ).alloc (zDrew hZ).size _) | exact HS.out _ (Below.setRow hZ hgz _) | exact HS.out _ (Below.setRow (hZ.alloc hZ.size _) hgz _))
     clear hK K
     try simp only [Act.put, List.setIfInBounds_toArray, List.set_cons_zero, List.set_cons_succ]
     refine wpAnyH_ready (rs := [14, 21]) (by kernel_rfl) (by simp) ?_
     refine AllReadyH.cons rfl (fun K hK => ?_) ?_
     ·
      go_simp
      go_at_call 34
      refine (HCN.out _ (by first | exact HBB.out _ hZ | exact HBB.out _ (zDrew hZ) | exact HBB.out _ (hZ.alloc hZ.size _) | exact HBB.out _ ((zDrew hZ).alloc (zDrew hZ).size _))).mono ?_
      rintro e y3 ⟨v7, v8, rfl, R1, R2, _, _, hC⟩
      obtain ⟨v7, x7, rfl⟩ := R1.form'
      obtain ⟨v8, x8, rfl⟩ := R2.form'
      (try have bx := bx.call hC)
      (try have bx := (Blk.new _ _ _).call hC)
      (try have bx := (Blk.drw (Blk.new _ _ _)).call hC)
      have hZ' : Below w0.heap.size w0 y3 := by first | exact zUp hZ hZ.size hC | exact zUp (zDrew hZ) (zDrew hZ).size hC | exact zUp (hZ.alloc hZ.size _) (hZ.alloc hZ.size _).size hC | exact zUp ((zDrew hZ).alloc (zDrew hZ).size _) ((zDrew hZ).alloc (zDrew hZ).size _).size hC
      clear hZ
      have hZ := hZ'
      clear hZ'
      have hK' : Below y1.heap.size y1 y3 := by first | exact zUp hK1 hK1.size hC | exact zUp (zDrew hK1) (zDrew hK1).size hC | exact zUp (hK1.alloc hK1.size _) (hK1.alloc hK1.size _).size hC | exact zUp ((zDrew hK1).alloc (zDrew hK1).size _) ((zDrew hK1).alloc (zDrew hK1).size _).size hC
      clear hK1
      have hK1 := hK'
      clear hK'
      have hK' : Below y2.heap.size y2 y3 := by first | exact zUp hK2 hK2.size hC | exact zUp (zDrew hK2) (zDrew hK2).size hC | exact zUp (hK2.alloc hK2.size _) (hK2.alloc hK2.size _).size hC | exact zUp ((zDrew hK2).alloc (zDrew hK2).size _) ((zDrew hK2).alloc (zDrew hK2).size _).size hC
      clear hK2
      have hK2 := hK'
      clear hK'
      have HR3 := κ (And.intro R1 R2)
      have hK3 : Below y3.heap.size y3 y3 := Below.refl _ _
      clear hC
      (try dsimp only)
      clear R1 R2
      refine hK.out _ _ ?_ (fun hHeld => ?_)
      focus ((try dsimp only); first | exact HS.out _ hZ | exact HS.out _ (zDrew hZ) | exact HS.out _ (hZ.alloc hZ.size _) | exact HS.out _ ((zDrew hZ).alloc (zDrew hZ).size _) | exact HS.out _ (Below.setRow hZ hgz _) | exact HS.out _ (Below.setRow (hZ.alloc hZ.size _) hgz _))
      clear hK K
      try simp only [Act.put, List.setIfInBounds_toArray, List.set_cons_zero, List.set_cons_succ]
      refine wpAnyH_ready (rs := [17, 21]) (by kernel_rfl) (by simp) ?_
      refine AllReadyH.cons rfl (fun K hK => ?_) ?_
      ·
       go_simp
       go_at_call 35
       refine (HCS.out _ (by first | exact HBB.out _ hZ | exact HBB.out _ (zDrew hZ) | exact HBB.out _ (hZ.alloc hZ.size _) | exact HBB.out _ ((zDrew hZ).alloc (zDrew hZ).size _))).mono ?_
       rintro e y4 ⟨v9, rfl, R1, hC⟩
       have F9 := R1.fresh9
       have R1 := R1.read
       obtain ⟨v9, x9, rfl⟩ := R1.form9
       have q9 := Off.fresh (g := w.heap.size + 1) F9 (Nat.lt_of_lt_of_le HBZ.out.lt (by first | exact hZ.size | exact (zDrew hZ).size | exact (hZ.alloc hZ.size _).size | exact ((zDrew hZ).alloc (zDrew hZ).size _).size))
       (try have o9 := Off.fresh F9 (Blk.lt (Blk.new _ _ _)))
       (try have o9 := Off.fresh F9 bx.lt)
       (try have bx := bx.call hC)
       (try have bx := (Blk.new _ _ _).call hC)
       (try have bx := (Blk.drw (Blk.new _ _ _)).call hC)
       have hZ' : Below w0.heap.size w0 y4 := by first | exact zUp hZ hZ.size hC | exact zUp (zDrew hZ) (zDrew hZ).size hC | exact zUp (hZ.alloc hZ.size _) (hZ.alloc hZ.size _).size hC | exact zUp ((zDrew hZ).alloc (zDrew hZ).size _) ((zDrew hZ).alloc (zDrew hZ).size _).size hC
       clear hZ
       have hZ := hZ'
       clear hZ'
       have hK' : Below y1.heap.size y1 y4 := by first | exact zUp hK1 hK1.size hC | exact zUp (zDrew hK1) (zDrew hK1).size hC | exact zUp (hK1.alloc hK1.size _) (hK1.alloc hK1.size _).size hC | exact zUp ((zDrew hK1).alloc (zDrew hK1).size _) ((zDrew hK1).alloc (zDrew hK1).size _).size hC
       clear hK1
       have hK1 := hK'
       clear hK'
       have hK' : Below y2.heap.size y2 y4 := by first | exact zUp hK2 hK2.size hC | exact zUp (zDrew hK2) (zDrew hK2).size hC | exact zUp (hK2.alloc hK2.size _) (hK2.alloc hK2.size _).size hC | exact zUp ((zDrew hK2).alloc (zDrew hK2).size _) ((zDrew hK2).alloc (zDrew hK2).size _).size hC
       clear hK2
       have hK2 := hK'
       clear hK'
       have hK' : Below y3.heap.size y3 y4 := by first | exact zUp hK3 hK3.size hC | exact zUp (zDrew hK3) (zDrew hK3).size hC | exact zUp (hK3.alloc hK3.size _) (hK3.alloc hK3.size _).size hC | exact zUp ((zDrew hK3).alloc (zDrew hK3).size _) ((zDrew hK3).alloc (zDrew hK3).size _).size hC
       clear hK3
       have hK3 := hK'
       clear hK'
       have HR4 := κ R1
       have hK4 : Below y4.heap.size y4 y4 := Below.refl _ _
       clear hC
       (try dsimp only)
       clear R1
       refine hK.out _ _ ?_ (fun hHeld => ?_)
       focus ((try dsimp only); first | exact HS.out _ hZ | exact HS.out _ (zDrew hZ) | exact HS.out _ (hZ.alloc hZ.size _) | exact HS.out _ ((zDrew hZ).alloc (zDrew hZ).size _) | exact HS.out _ (Below.setRow hZ hgz _) | exact HS.out _ (Below.setRow (hZ.alloc hZ.size _) hgz _))
       clear hK K
       try simp only [Act.put, List.setIfInBounds_toArray, List.set_cons_zero, List.set_cons_succ]
       refine tkH 20 ?_
       try simp only [Act.put, List.setIfInBounds_toArray, List.set_cons_zero, List.set_cons_succ]
       refine rdyH 21 (fun K hK => ?_)
       go_simp
       refine hK.out _ _ ?_ (fun hHeld => ?_)
       focus ((try dsimp only); first | exact HS.out _ hZ | exact HS.out _ (zDrew hZ) | exact HS.out _ (hZ.alloc hZ.size _) | exact HS.out _ ((zDrew hZ).alloc (zDrew hZ).size _) | exact HS.out _ (Below.setRow hZ hgz _) | exact HS.out _ (Below.setRow (hZ.alloc hZ.size _) hgz _))
       clear hK K
       try simp only [Act.put, List.setIfInBounds_toArray, List.set_cons_zero, List.set_cons_succ]
       have hgz := hZ.size
       (try have o9 := Off.oldS (HR4.out.below hK4 (ρ _)) (ρ _))
       refine rdyH 22 (fun K hK => ?_)
       rw [if_pos (by rfl)]
       first | (refine wp_store_row _ _ _ rfl _ #[.string (bs r.call), .string (bs r.dst.disp), .string (bs r.dst.uri.scheme), .string (bs r.dst.uri.user), .string (bs r.dst.uri.host), .int .i64 r.dst.uri.port, .slice v1 r.dst.uri.ps.length x1, .slice v2 r.dst.uri.hs.length x2, .slice v3 (r.dst.ps.length + 1) x3, .string (bs r.fr.disp), .string (bs r.fr.uri.scheme), .string (bs r.fr.uri.user), .string (bs r.fr.uri.host), .int .i64 r.fr.uri.port, .slice v4 r.fr.uri.ps.length x4, .slice v5 r.fr.uri.hs.length x5, .slice v6 r.fr.ps.length x6, .string (bs c.uri.scheme), .string (bs c.uri.user), .string (bs c.uri.host), .int .i64 c.uri.port, .slice v7 c.uri.ps.length x7, .slice v8 c.uri.hs.length x8, .slice v9 r.routes.length x9, .int .i64 r.seq, .int .i64 0] rfl rfl _ _ bx (by kernel_rfl) (by rfl) (by kernel_rfl) ?_) | (refine wp_store_row _ _ _ rfl _ #[.string (bs r.call), .string (bs r.dst.disp), .string (bs r.dst.uri.scheme), .string (bs r.dst.uri.user), .string (bs r.dst.uri.host), .int .i64 r.dst.uri.port, .slice v1 r.dst.uri.ps.length x1, .slice v2 r.dst.uri.hs.length x2, .slice v3 (r.dst.ps.length + 1) x3, .string (bs r.fr.disp), .string (bs r.fr.uri.scheme), .string (bs r.fr.uri.user), .string (bs r.fr.uri.host), .int .i64 r.fr.uri.port, .slice v4 r.fr.uri.ps.length x4, .slice v5 r.fr.uri.hs.length x5, .slice v6 r.fr.ps.length x6, .string (bs c.uri.scheme), .string (bs c.uri.user), .string (bs c.uri.host), .int .i64 c.uri.port, .slice v7 c.uri.ps.length x7, .slice v8 c.uri.hs.length x8, .slice v9 r.routes.length x9, .int .i64 r.seq, .int .i64 0] rfl rfl _ _ (Blk.new _ _ _) (by kernel_rfl) (by rfl) (by kernel_rfl) ?_)
       try go_simp
       refine hK.out _ _ ?_ (fun hHeld => ?_)
       focus ((try dsimp only); first | exact HS.out _ hZ | exact HS.out _ (zDrew hZ) | exact HS.out _ (hZ.alloc hZ.size _) | exact HS.out _ ((zDrew hZ).alloc (zDrew hZ).size _) | exact HS.out _ (Below.setRow hZ hgz _) | exact HS.out _ (Below.setRow (hZ.alloc hZ.size _) hgz _))
       clear hK K
       try simp only [Act.put, List.setIfInBounds_toArray, List.set_cons_zero, List.set_cons_succ]
       refine wpAnyH_done (by kernel_rfl) ?_ _
       go_wp2
       go_meet
       case rel => first | exact leafA bx HR1.out HR2.out HR3.out HR4.out hK1 hK2 hK3 o9 hgz hZ q9 rfl rfl | exact leafB HR1.out HR2.out HR3.out HR4.out hK1 hK2 hK3 o9 hgz hZ q9 rfl rfl
      refine AllReadyH.cons rfl (fun K hK => ?_) ?_
      ·
       go_simp
       refine hK.out _ _ ?_ (fun hHeld => ?_)
       focus ((try dsimp only); first | exact HS.out _ hZ | exact HS.out _ (zDrew hZ) | exact HS.out _ (hZ.alloc hZ.size _) | exact HS.out _ ((zDrew hZ).alloc (zDrew hZ).size _) | exact HS.out _ (Below.setRow hZ hgz _) | exact HS.out _ (Below.setRow (hZ.alloc hZ.size _) hgz _))
       clear hK K
       try simp only [Act.put, List.setIfInBounds_toArray, List.set_cons_zero, List.set_cons_succ]
       have hgz := hZ.size
       (try have o9 := Off.oldS (HR4.out.below hK4 (ρ _)) (ρ _))
       refine rdyH 17 (fun K hK => ?_)
       go_simp
       go_at_call 35
       refine (HCS.out _ (by first | exact HBB.out _ hZ | exact HBB.out _ (zDrew hZ) | exact HBB.out _ (hZ.alloc hZ.size _) | exact HBB.out _ ((zDrew hZ).alloc (zDrew hZ).size _))).mono ?_
       rintro e y4 ⟨v9, rfl, R1, hC⟩
       have F9 := R1.fresh9
       have R1 := R1.read
       obtain ⟨v9, x9, rfl⟩ := R1.form9
       have q9 := Off.fresh (g := w.heap.size + 1) F9 (Nat.lt_of_lt_of_le HBZ.out.lt (by first | exact hZ.size | exact (zDrew hZ).size | exact (hZ.alloc hZ.size _).size | exact ((zDrew hZ).alloc (zDrew hZ).size _).size))
       (try have o9 := Off.fresh F9 (Blk.lt (Blk.new _ _ _)))
       (try have o9 := Off.fresh F9 bx.lt)
       (try have bx := bx.call hC)
       (try have bx := (Blk.new _ _ _).call hC)
       (try have bx := (Blk.drw (Blk.new _ _ _)).call hC)
       have hZ' : Below w0.heap.size w0 y4 := by first | exact zUp hZ hZ.size hC | exact zUp (zDrew hZ) (zDrew hZ).size hC | exact zUp (hZ.alloc hZ.size _) (hZ.alloc hZ.size _).size hC | exact zUp ((zDrew hZ).alloc (zDrew hZ).size _) ((zDrew hZ).alloc (zDrew hZ).size _).size hC
       clear hZ
       have hZ := hZ'
       clear hZ'
       have hK' : Below y1.heap.size y1 y4 := by first | exact zUp hK1 hK1.size hC | exact zUp (zDrew hK1) (zDrew hK1).size hC | exact zUp (hK1.alloc hK1.size _) (hK1.alloc hK1.size _).size hC | exact zUp ((zDrew hK1).alloc (zDrew hK1).size _) ((zDrew hK1).alloc (zDrew hK1).size _).size hC
       clear hK1
       have hK1 := hK'
       clear hK'
       have hK' : Below y2.heap.size y2 y4 := by first | exact zUp hK2 hK2.size hC | exact zUp (zDrew hK2) (zDrew hK2).size hC | exact zUp (hK2.alloc hK2.size _) (hK2.alloc hK2.size _).size hC | exact zUp ((zDrew hK2).alloc (zDrew hK2).size _) ((zDrew hK2).alloc (zDrew hK2).size _).size hC
       clear hK2
       have hK2 := hK'
       clear hK'
       have hK' : Below y3.heap.size y3 y4 := by first | exact zUp hK3 hK3.size hC | exact zUp (zDrew hK3) (zDrew hK3).size hC | exact zUp (hK3.alloc hK3.size _) (hK3.alloc hK3.size _).size hC | exact zUp ((zDrew hK3).alloc (zDrew hK3).size _) ((zDrew hK3).alloc (zDrew hK3).size _).size hC
       clear hK3
       have hK3 := hK'
       clear hK'
       have HR4 := κ R1
       have hK4 : Below y4.heap.size y4 y4 := Below.refl _ _
       clear hC
       (try dsimp only)
       clear R1
       refine hK.out _ _ ?_ (fun hHeld => ?_)
       focus ((try dsimp only); first | exact HS.out _ hZ | exact HS.out _ (zDrew hZ) | exact HS.out _ (hZ.alloc hZ.size _) | exact HS.out _ ((zDrew hZ).alloc (zDrew hZ).size _) | exact HS.out _ (Below.setRow hZ hgz _) | exact HS.out _ (Below.setRow (hZ.alloc hZ.size _) hgz _))
       clear hK K
       try simp only [Act.put, List.setIfInBounds_toArray, List.set_cons_zero, List.set_cons_succ]
       refine tkH 20 ?_
       try simp only [Act.put, List.setIfInBounds_toArray, List.set_cons_zero, List.set_cons_succ]
       refine rdyH 22 (fun K hK => ?_)
       rw [if_pos (by rfl)]
       first | (refine wp_store_row _ _ _ rfl _ #[.string (bs r.call), .string (bs r.dst.disp), .string (bs r.dst.uri.scheme), .string (bs r.dst.uri.user), .string (bs r.dst.uri.host), .int .i64 r.dst.uri.port, .slice v1 r.dst.uri.ps.length x1, .slice v2 r.dst.uri.hs.length x2, .slice v3 (r.dst.ps.length + 1) x3, .string (bs r.fr.disp), .string (bs r.fr.uri.scheme), .string (bs r.fr.uri.user), .string (bs r.fr.uri.host), .int .i64 r.fr.uri.port, .slice v4 r.fr.uri.ps.length x4, .slice v5 r.fr.uri.hs.length x5, .slice v6 r.fr.ps.length x6, .string (bs c.uri.scheme), .string (bs c.uri.user), .string (bs c.uri.host), .int .i64 c.uri.port, .slice v7 c.uri.ps.length x7, .slice v8 c.uri.hs.length x8, .slice v9 r.routes.length x9, .int .i64 r.seq, .int .i64 0] rfl rfl _ _ bx (by kernel_rfl) (by rfl) (by kernel_rfl) ?_) | (refine wp_store_row _ _ _ rfl _ #[.string (bs r.call), .string (bs r.dst.disp), .string (bs r.dst.uri.scheme), .string (bs r.dst.uri.user), .string (bs r.dst.uri.host), .int .i64 r.dst.uri.port, .slice v1 r.dst.uri.ps.length x1, .slice v2 r.dst.uri.hs.length x2, .slice v3 (r.dst.ps.length + 1) x3, .string (bs r.fr.disp), .string (bs r.fr.uri.scheme), .string (bs r.fr.uri.user), .string (bs r.fr.uri.host), .int .i64 r.fr.uri.port, .slice v4 r.fr.uri.ps.length x4, .slice v5 r.fr.uri.hs.length x5, .slice v6 r.fr.ps.length x6, .string (bs c.uri.scheme), .string (bs c.uri.user), .string (bs c.uri.host), .int .i64 c.uri.port, .slice v7 c.uri.ps.length x7, .slice v8 c.uri.hs.length x8, .slice v9 r.routes.length x9, .int .i64 r.seq, .int .i64 0] rfl rfl _ _ (Blk.new _ _ _) (by kernel_rfl) (by rfl) (by kernel_rfl) ?_)
       try go_simp
       refine hK.out _ _ ?_ (fun hHeld => ?_)
       focus ((try dsimp only); first | exact HS.out _ hZ | exact HS.out _ (zDrew hZ) | exact HS.out _ (hZ.alloc hZ.size _) | exact HS.out _ ((zDrew hZ).alloc (zDrew hZ).size _) | exact HS.out _ (Below.setRow hZ hgz _) | exact HS.out _ (Below.setRow (hZ.alloc hZ.size _) hgz _))
       clear hK K
       try simp only [Act.put, List.setIfInBounds_toArray, List.set_cons_zero, List.set_cons_succ]
       refine wpAnyH_done (by kernel_rfl) ?_ _
       go_wp2
       go_meet
       case rel => first | exact leafA bx HR1.out HR2.out HR3.out HR4.out hK1 hK2 hK3 o9 hgz hZ q9 rfl rfl | exact leafB HR1.out HR2.out HR3.out HR4.out hK1 hK2 hK3 o9 hgz hZ q9 rfl rfl
      exact AllReadyH.nil
     refine AllReadyH.cons rfl (fun K hK => ?_) ?_
     ·
      go_simp
      refine hK.out _ _ ?_ (fun hHeld => ?_)
      focus ((try dsimp only); first | exact HS.out _ hZ | exact HS.out _ (zDrew hZ) | exact HS.out _ (hZ.alloc hZ.size _) | exact HS.out _ ((zDrew hZ).alloc (zDrew hZ).size _) | exact HS.out _ (Below.setRow hZ hgz _) | exact HS.out _ (Below.setRow (hZ.alloc hZ.size _) hgz _))
      clear hK K
      try simp only [Act.put, List.setIfInBounds_toArray, List.set_cons_zero, List.set_cons_succ]
      have hgz := hZ.size
      (try have o9 := Off.oldS (HR4.out.below hK4 (ρ _)) (ρ _))
      refine rdyH 14 (fun K hK => ?_)
      go_simp
      go_at_call 34
      refine (HCN.out _ (by first | exact HBB.out _ hZ | exact HBB.out _ (zDrew hZ) | exact HBB.out _ (hZ.alloc hZ.size _) | exact HBB.out _ ((zDrew hZ).alloc (zDrew hZ).size _))).mono ?_
      rintro e y3 ⟨v7, v8, rfl, R1, R2, _, _, hC⟩
      obtain ⟨v7, x7, rfl⟩ := R1.form'
      obtain ⟨v8, x8, rfl⟩ := R2.form'
      (try have bx := bx.call hC)
      (try have bx := (Blk.new _ _ _).call hC)
      (try have bx := (Blk.drw (Blk.new _ _ _)).call hC)
      have hZ' : Below w0.heap.size w0 y3 := by first | exact zUp hZ hZ.size hC | exact zUp (zDrew hZ) (zDrew hZ).size hC | exact zUp (hZ.alloc hZ.size _) (hZ.alloc hZ.size _).size hC | exact zUp ((zDrew hZ).alloc (zDrew hZ).size _) ((zDrew hZ).alloc (zDrew hZ).size _).size hC
      clear hZ
      have hZ := hZ'
      clear hZ'
      have hK' : Below y1.heap.size y1 y3 := by first | exact zUp hK1 hK1.size hC | exact zUp (zDrew hK1) (zDrew hK1).size hC | exact zUp (hK1.alloc hK1.size _) (hK1.alloc hK1.size _).size hC | exact zUp ((zDrew hK1).alloc (zDrew hK1).size _) ((zDrew hK1).alloc (zDrew hK1).size _).size hC
      clear hK1
      have hK1 := hK'
      clear hK'
      have hK' : Below y2.heap.size y2 y3 := by first | exact zUp hK2 hK2.size hC | exact zUp (zDrew hK2) (zDrew hK2).size hC | exact zUp (hK2.alloc hK2.size _) (hK2.alloc hK2.size _).size hC | exact zUp ((zDrew hK2).alloc (zDrew hK2).size _) ((zDrew hK2).alloc (zDrew hK2).size _).size hC
      clear hK2
      have hK2 := hK'
      clear hK'
      have HR3 := κ (And.intro R1 R2)
      have hK3 : Below y3.heap.size y3 y3 := Below.refl _ _
      clear hC
      (try dsimp only)
      clear R1 R2
      refine hK.out _ _ ?_ (fun hHeld => ?_)
      focus ((try dsimp only); first | exact HS.out _ hZ | exact HS.out _ (zDrew hZ) | exact HS.out _ (hZ.alloc hZ.size _) | exact HS.out _ ((zDrew hZ).alloc (zDrew hZ).size _) | exact HS.out _ (Below.setRow hZ hgz _) | exact HS.out _ (Below.setRow (hZ.alloc hZ.size _) hgz _))
      clear hK K
      try simp only [Act.put, List.setIfInBounds_toArray, List.set_cons_zero, List.set_cons_succ]
      refine rdyH 17 (fun K hK => ?_)
      go_simp
      go_at_call 35
      refine (HCS.out _ (by first | exact HBB.out _ hZ | exact HBB.out _ (zDrew hZ) | exact HBB.out _ (hZ.alloc hZ.size _) | exact HBB.out _ ((zDrew hZ).alloc (zDrew hZ).size _))).mono ?_
      rintro e y4 ⟨v9, rfl, R1, hC⟩
      have F9 := R1.fresh9
      have R1 := R1.read
      obtain ⟨v9, x9, rfl⟩ := R1.form9
      have q9 := Off.fresh (g := w.heap.size + 1) F9 (Nat.lt_of_lt_of_le HBZ.out.lt (by first | exact hZ.size | exact (zDrew hZ).size | exact (hZ.alloc hZ.size _).size | exact ((zDrew hZ).alloc (zDrew hZ).size _).size))
      (try have o9 := Off.fresh F9 (Blk.lt (Blk.new _ _ _)))
      (try have o9 := Off.fresh F9 bx.lt)
      (try have bx := bx.call hC)
      (try have bx := (Blk.new _ _ _).call hC)
      (try have bx := (Blk.drw (Blk.new _ _ _)).call hC)
      have hZ' : Below w0.heap.size w0 y4 := by first | exact zUp hZ hZ.size hC | exact zUp (zDrew hZ) (zDrew hZ).size hC | exact zUp (hZ.alloc hZ.size _) (hZ.alloc hZ.size _).size hC | exact zUp ((zDrew hZ).alloc (zDrew hZ).size _) ((zDrew hZ).alloc (zDrew hZ).size _).size hC
      clear hZ
      have hZ := hZ'
      clear hZ'
      have hK' : Below y1.heap.size y1 y4 := by first | exact zUp hK1 hK1.size hC | exact zUp (zDrew hK1) (zDrew hK1).size hC | exact zUp (hK1.alloc hK1.size _) (hK1.alloc hK1.size _).size hC | exact zUp ((zDrew hK1).alloc (zDrew hK1).size _) ((zDrew hK1).alloc (zDrew hK1).size _).size hC
      clear hK1
      have hK1 := hK'
      clear hK'
      have hK' : Below y2.heap.size y2 y4 := by first | exact zUp hK2 hK2.size hC | exact zUp (zDrew hK2) (zDrew hK2).size hC | exact zUp (hK2.alloc hK2.size _) (hK2.alloc hK2.size _).size hC | exact zUp ((zDrew hK2).alloc (zDrew hK2).size _) ((zDrew hK2).alloc (zDrew hK2).size _).size hC
      clear hK2
      have hK2 := hK'
      clear hK'
      have hK' : Below y3.heap.size y3 y4 := by first | exact zUp hK3 hK3.size hC | exact zUp (zDrew hK3) (zDrew hK3).size hC | exact zUp (hK3.alloc hK3.size _) (hK3.alloc hK3.size _).size hC | exact zUp ((zDrew hK3).alloc (zDrew hK3).size _) ((zDrew hK3).alloc (zDrew hK3).size _).size hC
      clear hK3
      have hK3 := hK'
      clear hK'
      have HR4 := κ R1
      have hK4 : Below y4.heap.size y4 y4 := Below.refl _ _
      clear hC
      (try dsimp only)
      clear R1
      refine hK.out _ _ ?_ (fun hHeld => ?_)
      focus ((try dsimp only); first | exact HS.out _ hZ | exact HS.out _ (zDrew hZ) | exact HS.out _ (hZ.alloc hZ.size _) | exact HS.out _ ((zDrew hZ).alloc (zDrew hZ).size _) | exact HS.out _ (Below.setRow hZ hgz _) | exact HS.out _ (Below.setRow (hZ.alloc hZ.size _) hgz _))
      clear hK K
      try simp only [Act.put, List.setIfInBounds_toArray, List.set_cons_zero, List.set_cons_succ]
      refine tkH 20 ?_
      try simp only [Act.put, List.setIfInBounds_toArray, List.set_cons_zero, List.set_cons_succ]
      refine rdyH 22 (fun K hK => ?_)
      rw [if_pos (by rfl)]
      first | (refine wp_store_row _ _ _ rfl _ #[.string (bs r.call), .string (bs r.dst.disp), .string (bs r.dst.uri.scheme), .string (bs r.dst.uri.user), .string (bs r.dst.uri.host), .int .i64 r.dst.uri.port, .slice v1 r.dst.uri.ps.length x1, .slice v2 r.dst.uri.hs.length x2, .slice v3 (r.dst.ps.length + 1) x3, .string (bs r.fr.disp), .string (bs r.fr.uri.scheme), .string (bs r.fr.uri.user), .string (bs r.fr.uri.host), .int .i64 r.fr.uri.port, .slice v4 r.fr.uri.ps.length x4, .slice v5 r.fr.uri.hs.length x5, .slice v6 r.fr.ps.length x6, .string (bs c.uri.scheme), .string (bs c.uri.user), .string (bs c.uri.host), .int .i64 c.uri.port, .slice v7 c.uri.ps.length x7, .slice v8 c.uri.hs.length x8, .slice v9 r.routes.length x9, .int .i64 r.seq, .int .i64 0] rfl rfl _ _ bx (by kernel_rfl) (by rfl) (by kernel_rfl) ?_) | (refine wp_store_row _ _ _ rfl _ #[.string (bs r.call), .string (bs r.dst.disp), .string (bs r.dst.uri.scheme), .string (bs r.dst.uri.user), .string (bs r.dst.uri.host), .int .i64 r.dst.uri.port, .slice v1 r.dst.uri.ps.length x1, .slice v2 r.dst.uri.hs.length x2, .slice v3 (r.dst.ps.length + 1) x3, .string (bs r.fr.disp), .string (bs r.fr.uri.scheme), .string (bs r.fr.uri.user), .string (bs r.fr.uri.host), .int .i64 r.fr.uri.port, .slice v4 r.fr.uri.ps.length x4, .slice v5 r.fr.uri.hs.length x5, .slice v6 r.fr.ps.length x6, .string (bs c.uri.scheme), .string (bs c.uri.user), .string (bs c.uri.host), .int .i64 c.uri.port, .slice v7 c.uri.ps.length x7, .slice v8 c.uri.hs.length x8, .slice v9 r.routes.length x9, .int .i64 r.seq, .int .i64 0] rfl rfl _ _ (Blk.new _ _ _) (by kernel_rfl) (by rfl) (by kernel_rfl) ?_)
      try go_simp
      refine hK.out _ _ ?_ (fun hHeld => ?_)
      focus ((try dsimp only); first | exact HS.out _ hZ | exact HS.out _ (zDrew hZ) | exact HS.out _ (hZ.alloc hZ.size _) | exact HS.out _ ((zDrew hZ).alloc (zDrew hZ).size _) | exact HS.out _ (Below.setRow hZ hgz _) | exact HS.out _ (Below.setRow (hZ.alloc hZ.size _) hgz _))
      clear hK K
      try simp only [Act.put, List.setIfInBounds_toArray, List.set_cons_zero, List.set_cons_succ]
      refine wpAnyH_done (by kernel_rfl) ?_ _
      go_wp2
      go_meet
      case rel => first | exact leafA bx HR1.out HR2.out HR3.out HR4.out hK1 hK2 hK3 o9 hgz hZ q9 rfl rfl | exact leafB HR1.out HR2.out HR3.out HR4.out hK1 hK2 hK3 o9 hgz hZ q9 rfl rfl
     exact AllReadyH.nil
    refine AllReadyH.cons rfl (fun K hK => ?_) ?_
    ·
     go_simp
     refine hK.out _ _ ?_ (fun hHeld => ?_)
     focus ((try dsimp only); first | exact HS.out _ hZ | exact HS.out _ (zDrew hZ) | exact HS.out _ (hZ.alloc hZ.size _) | exact HS.out _ ((zDrew hZ).alloc (zDrew hZ).size _) | exact HS.out _ (Below.setRow hZ hgz _) | exact HS.out _ (Below.setRow (hZ.alloc hZ.size _) hgz _))
     clear hK K
     try simp only [Act.put, List.setIfInBounds_toArray, List.set_cons_zero, List.set_cons_succ]
     have hgz := hZ.size
     (try have o9 := Off.oldS (HR4.out.below hK4 (ρ _)) (ρ _))
     refine rdyH 8 (fun K hK => ?_)
     go_simp
     go_at_call 33
     refine (HOW.out _ (by first | exact HBB.out _ hZ | exact HBB.out _ (zDrew hZ) | exact HBB.out _ (hZ.alloc hZ.size _) | exact HBB.out _ ((zDrew hZ).alloc (zDrew hZ).size _))).mono ?_
     rintro e y2 ⟨v4, v5, v6, rfl, R1, R2, R3, _, _, _, hC⟩
     obtain ⟨v4, x4, rfl⟩ := R1.form'
     obtain ⟨v5, x5, rfl⟩ := R2.form'
     obtain ⟨v6, x6, rfl⟩ := R3.form'
     (try have bx := bx.call hC)
     (try have bx := (Blk.new _ _ _).call hC)
     (try have bx := (Blk.drw (Blk.new _ _ _)).call hC)
     have hZ' : Below w0.heap.size w0 y2 := by first | exact zUp hZ hZ.size hC | exact zUp (zDrew hZ) (zDrew hZ).size hC | exact zUp (hZ.alloc hZ.size _) (hZ.alloc hZ.size _).size hC | exact zUp ((zDrew hZ).alloc (zDrew hZ).size _) ((zDrew hZ).alloc (zDrew hZ).size _).size hC
     clear hZ
     have hZ := hZ'
     clear hZ'
     have hK' : Below y1.heap.size y1 y2 := by first | exact zUp hK1 hK1.size hC | exact zUp (zDrew hK1) (zDrew hK1).size hC | exact zUp (hK1.alloc hK1.size _) (hK1.alloc hK1.size _).size hC | exact zUp ((zDrew hK1).alloc (zDrew hK1).size _) ((zDrew hK1).alloc (zDrew hK1).size _).size hC
     clear hK1
     have hK1 := hK'
     clear hK'
     have HR2 := κ (And.intro R1 (And.intro R2 R3))
     have hK2 : Below y2.heap.size y2 y2 := Below.refl _ _
     clear hC
     (try dsimp only)
     clear R1 R2 R3
     refine hK.out _ _ ?_ (fun hHeld => ?_)
     focus ((try dsimp only); first | exact HS.out _ hZ | exact HS.out _ (zDrew hZ) | exact HS.out _ (hZ.alloc hZ.size _) | exact HS.out _ ((zDrew hZ).alloc (zDrew hZ).size _) | exact HS.out _ (Below.setRow hZ hgz _) | exact HS.out _ (Below.setRow (hZ.alloc hZ.size _) hgz _))
     clear hK K
     try simp only [Act.put, List.setIfInBounds_toArray, List.set_cons_zero, List.set_cons_succ]
     refine rdyH 14 (fun K hK => ?_)
     go_simp
     go_at_call 34
     refine (HCN.out _ (by first | exact HBB.out _ hZ | exact HBB.out _ (zDrew hZ) | exact HBB.out _ (hZ.alloc hZ.size _) | exact HBB.out _ ((zDrew hZ).alloc (zDrew hZ).size _))).mono ?_
     rintro e y3 ⟨v7, v8, rfl, R1, R2, _, _, hC⟩
     obtain ⟨v7, x7, rfl⟩ := R1.form'
     obtain ⟨v8, x8, rfl⟩ := R2.form'
     (try have bx := bx.call hC)
     (try have bx := (Blk.new _ _ _).call hC)
     (try have bx := (Blk.drw (Blk.new _ _ _)).call hC)
     have hZ' : Below w0.heap.size w0 y3 := by first | exact zUp hZ hZ.size hC | exact zUp (zDrew hZ) (zDrew hZ).size hC | exact zUp (hZ.alloc hZ.size _) (hZ.alloc hZ.size _).size hC | exact zUp ((zDrew hZ).alloc (zDrew hZ).size _) ((zDrew hZ).alloc (zDrew hZ).size _).size hC
     clear hZ
     have hZ := hZ'
     clear hZ'
     have hK' : Below y1.heap.size y1 y3 := by first | exact zUp hK1 hK1.size hC | exact zUp (zDrew hK1) (zDrew hK1).size hC | exact zUp (hK1.alloc hK1.size _) (hK1.alloc hK1.size _).size hC | exact zUp ((zDrew hK1).alloc (zDrew hK1).size _) ((zDrew hK1).alloc (zDrew hK1).size _).size hC
     clear hK1
     have hK1 := hK'
     clear hK'
     have hK' : Below y2.heap.size y2 y3 := by first | exact zUp hK2 hK2.size hC | exact zUp (zDrew hK2) (zDrew hK2).size hC | exact zUp (hK2.alloc hK2.size _) (hK2.alloc hK2.size _).size hC | exact zUp ((zDrew hK2).alloc (zDrew hK2).size _) ((zDrew hK2).alloc (zDrew hK2).size _).size hC
     clear hK2
     have hK2 := hK'
     clear hK'
     have HR3 := κ (And.intro R1 R2)
     have hK3 : Below y3.heap.size y3 y3 := Below.refl _ _
     clear hC
     (try dsimp only)
     clear R1 R2
     refine hK.out _ _ ?_ (fun hHeld => ?_)
     focus ((try dsimp only); first | exact HS.out _ hZ | exact HS.out _ (zDrew hZ) | exact HS.out _ (hZ.alloc hZ.size _) | exact HS.out _ ((zDrew hZ).alloc (zDrew hZ).size _) | exact HS.out _ (Below.setRow hZ hgz _) | exact HS.out _ (Below.setRow (hZ.alloc hZ.size _) hgz _))
     clear hK K
     try simp only [Act.put, List.setIfInBounds_toArray, List.set_cons_zero, List.set_cons_succ]
     refine rdyH 17 (fun K hK => ?_)
     go_simp
     go_at_call 35
     refine (HCS.out _ (by first | exact HBB.out _ hZ | exact HBB.out _ (zDrew hZ) | exact HBB.out _ (hZ.alloc hZ.size _) | exact HBB.out _ ((zDrew hZ).alloc (zDrew hZ).size _))).mono ?_
     rintro e y4 ⟨v9, rfl, R1, hC⟩
     have F9 := R1.fresh9
     have R1 := R1.read
     obtain ⟨v9, x9, rfl⟩ := R1.form9
     have q9 := Off.fresh (g := w.heap.size + 1) F9 (Nat.lt_of_lt_of_le HBZ.out.lt (by first | exact hZ.size | exact (zDrew hZ).size | exact (hZ.alloc hZ.size _).size | exact ((zDrew hZ).alloc (zDrew hZ).size _).size))
     (try have o9 := Off.fresh F9 (Blk.lt (Blk.new _ _ _)))
     (try have o9 := Off.fresh F9 bx.lt)
     (try have bx := bx.call hC)
     (try have bx := (Blk.new _ _ _).call hC)
     (try have bx := (Blk.drw (Blk.new _ _ _)).call hC)
     have hZ' : Below w0.heap.size w0 y4 := by first | exact zUp hZ hZ.size hC | exact zUp (zDrew hZ) (zDrew hZ).size hC | exact zUp (hZ.alloc hZ.size _) (hZ.alloc hZ.size _).size hC | exact zUp ((zDrew hZ).alloc (zDrew hZ).size _) ((zDrew hZ).alloc (zDrew hZ).size _).size hC
     clear hZ
     have hZ := hZ'
     clear hZ'
     have hK' : Below y1.heap.size y1 y4 := by first | exact zUp hK1 hK1.size hC | exact zUp (zDrew hK1) (zDrew hK1).size hC | exact zUp (hK1.alloc hK1.size _) (hK1.alloc hK1.size _).size hC | exact zUp ((zDrew hK1).alloc (zDrew hK1).size _) ((zDrew hK1).alloc (zDrew hK1).size _).size hC
     clear hK1
     have hK1 := hK'
     clear hK'
     have hK' : Below y2.heap.size y2 y4 := by first | exact zUp hK2 hK2.size hC | exact zUp (zDrew hK2) (zDrew hK2).size hC | exact zUp (hK2.alloc hK2.size _) (hK2.alloc hK2.size _).size hC | exact zUp ((zDrew hK2).alloc (zDrew hK2).size _) ((zDrew hK2).alloc (zDrew hK2).size _).size hC
     clear hK2
     have hK2 := hK'
     clear hK'
     have hK' : Below y3.heap.size y3 y4 := by first | exact zUp hK3 hK3.size hC | exact zUp (zDrew hK3) (zDrew hK3).size hC | exact zUp (hK3.alloc hK3.size _) (hK3.alloc hK3.size _).size hC | exact zUp ((zDrew hK3).alloc (zDrew hK3).size _) ((zDrew hK3).alloc (zDrew hK3).size _).size hC
     clear hK3
     have hK3 := hK'
     clear hK'
     have HR4 := κ R1
     have hK4 : Below y4.heap.size y4 y4 := Below.refl _ _
     clear hC
     (try dsimp only)
     clear R1
     refine hK.out _ _ ?_ (fun hHeld => ?_)
     focus ((try dsimp only); first | exact HS.out _ hZ | exact HS.out _ (zDrew hZ) | exact HS.out _ (hZ.alloc hZ.size _) | exact HS.out _ ((zDrew hZ).alloc (zDrew hZ).size _) | exact HS.out _ (Below.setRow hZ hgz _) | exact HS.out _ (Below.setRow (hZ.alloc hZ.size _) hgz _))
     clear hK K
     try simp only [Act.put, List.setIfInBounds_toArray, List.set_cons_zero, List.set_cons_succ]
     refine tkH 20 ?_
     try simp only [Act.put, List.setIfInBounds_toArray, List.set_cons_zero, List.set_cons_succ]
     refine rdyH 22 (fun K hK => ?_)
     rw [if_pos (by rfl)]
     first | (refine wp_store_row _ _ _ rfl _ #[.string (bs r.call), .string (bs r.dst.disp), .string (bs r.dst.uri.scheme), .string (bs r.dst.uri.user), .string (bs r.dst.uri.host), .int .i64 r.dst.uri.port, .slice v1 r.dst.uri.ps.length x1, .slice v2 r.dst.uri.hs.length x2, .slice v3 (r.dst.ps.length + 1) x3, .string (bs r.fr.disp), .string (bs r.fr.uri.scheme), .string (bs r.fr.uri.user), .string (bs r.fr.uri.host), .int .i64 r.fr.uri.port, .slice v4 r.fr.uri.ps.length x4, .slice v5 r.fr.uri.hs.length x5, .slice v6 r.fr.ps.length x6, .string (bs c.uri.scheme), .string (bs c.uri.user), .string (bs c.uri.host), .int .i64 c.uri.port, .slice v7 c.uri.ps.length x7, .slice v8 c.uri.hs.length x8, .slice v9 r.routes.length x9, .int .i64 r.seq, .int .i64 0] rfl rfl _ _ bx (by kernel_rfl) (by rfl) (by kernel_rfl) ?_) | (refine wp_store_row _ _ _ rfl _ #[.string (bs r.call), .string (bs r.dst.disp), .string (bs r.dst.uri.scheme), .string (bs r.dst.uri.user), .string (bs r.dst.uri.host), .int .i64 r.dst.uri.port, .slice v1 r.dst.uri.ps.length x1, .slice v2 r.dst.uri.hs.length x2, .slice v3 (r.dst.ps.length + 1) x3, .string (bs r.fr.disp), .string (bs r.fr.uri.scheme), .string (bs r.fr.uri.user), .string (bs r.fr.uri.host), .int .i64 r.fr.uri.port, .slice v4 r.fr.uri.ps.length x4, .slice v5 r.fr.uri.hs.length x5, .slice v6 r.fr.ps.length x6, .string (bs c.uri.scheme), .string (bs c.uri.user), .string (bs c.uri.host), .int .i64 c.uri.port, .slice v7 c.uri.ps.length x7, .slice v8 c.uri.hs.length x8, .slice v9 r.routes.length x9, .int .i64 r.seq, .int .i64 0] rfl rfl _ _ (Blk.new _ _ _) (by kernel_rfl) (by rfl) (by kernel_rfl) ?_)
     try go_simp
     refine hK.out _ _ ?_ (fun hHeld => ?_)
     focus ((try dsimp only); first | exact HS.out _ hZ | exact HS.out _ (zDrew hZ) | exact HS.out _ (hZ.alloc hZ.size _) | exact HS.out _ ((zDrew hZ).alloc (zDrew hZ).size _) | exact HS.out _ (Below.setRow hZ hgz _) | exact HS.out _ (Below.setRow (hZ.alloc hZ.size _) hgz _))
     clear hK K
     try simp only [Act.put, List.setIfInBounds_toArray, List.set_cons_zero, List.set_cons_succ]
     refine wpAnyH_done (by kernel_rfl) ?_ _
     go_wp2
     go_meet
     case rel => first | exact leafA bx HR1.out HR2.out HR3.out HR4.out hK1 hK2 hK3 o9 hgz hZ q9 rfl rfl | exact leafB HR1.out HR2.out HR3.out HR4.out hK1 hK2 hK3 o9 hgz hZ q9 rfl rfl
    exact AllReadyH.nil
   refine AllReadyH.cons rfl (fun K hK => ?_) ?_
   ·
    go_simp
    refine hK.out _ _ ?_ (fun hHeld => ?_)
    focus ((try dsimp only); first | exact HS.out _ hZ | exact HS.out _ (zDrew hZ) | exact HS.out _ (hZ.alloc hZ.size _) | exact HS.out _ ((zDrew hZ).alloc (zDrew hZ).size _) | exact HS.out _ (Below.setRow hZ hgz _) | exact HS.out _ (Below.setRow (hZ.alloc hZ.size _) hgz _))
    clear hK K
    try simp only [Act.put, List.setIfInBounds_toArray, List.set_cons_zero, List.set_cons_succ]
    have hgz := hZ.size
    (try have o9 := Off.oldS (HR4.out.below hK4 (ρ _)) (ρ _))
    refine rdyH 5 (fun K hK => ?_)
    go_simp
    go_at_call 32
    refine (HTG.out _ (by first | exact HBB.out _ hZ | exact HBB.out _ (zDrew hZ) | exact HBB.out _ (hZ.alloc hZ.size _) | exact HBB.out _ ((zDrew hZ).alloc (zDrew hZ).size _))).mono ?_
    rintro e y1 ⟨v1, v2, v3, rfl, R1, R2, R3, _, _, _, hC⟩
    obtain ⟨v1, x1, rfl⟩ := R1.form'
    obtain ⟨v2, x2, rfl⟩ := R2.form'
    obtain ⟨v3, x3, rfl⟩ := R3.form1
    (try have bx := bx.call hC)
    (try have bx := (Blk.new _ _ _).call hC)
    (try have bx := (Blk.drw (Blk.new _ _ _)).call hC)
    have hZ' : Below w0.heap.size w0 y1 := by first | exact zUp hZ hZ.size hC | exact zUp (zDrew hZ) (zDrew hZ).size hC | exact zUp (hZ.alloc hZ.size _) (hZ.alloc hZ.size _).size hC | exact zUp ((zDrew hZ).alloc (zDrew hZ).size _) ((zDrew hZ).alloc (zDrew hZ).size _).size hC
    clear hZ
    have hZ := hZ'
    clear hZ'
    have HR1 := κ (And.intro R1 (And.intro R2 R3))
    have hK1 : Below y1.heap.size y1 y1 := Below.refl _ _
    clear hC
    (try dsimp only)
    clear R1 R2 R3
    refine hK.out _ _ ?_ (fun hHeld => ?_)
    focus ((try dsimp only); first | exact HS.out _ hZ | exact HS.out _ (zDrew hZ) | exact HS.out _ (hZ.alloc hZ.size _) | exact HS.out _ ((zDrew hZ).alloc (zDrew hZ).size _) | exact HS.out _ (Below.setRow hZ hgz _) | exact HS.out _ (Below.setRow (hZ.alloc hZ.size _) hgz _))
    clear hK K
    try simp only [Act.put, List.setIfInBounds_toArray, List.set_cons_zero, List.set_cons_succ]
    refine rdyH 8 (fun K hK => ?_)
    go_simp
    go_at_call 33
    refine (HOW.out _ (by first | exact HBB.out _ hZ | exact HBB.out _ (zDrew hZ) | exact HBB.out _ (hZ.alloc hZ.size _) | exact HBB.out _ ((zDrew hZ).alloc (zDrew hZ).size _))).mono ?_
    rintro e y2 ⟨v4, v5, v6, rfl, R1, R2, R3, _, _, _, hC⟩
    obtain ⟨v4, x4, rfl⟩ := R1.form'
    obtain ⟨v5, x5, rfl⟩ := R2.form'
    obtain ⟨v6, x6, rfl⟩ := R3.form'
    (try have bx := bx.call hC)
    (try have bx := (Blk.new _ _ _).call hC)
    (try have bx := (Blk.drw (Blk.new _ _ _)).call hC)
    have hZ' : Below w0.heap.size w0 y2 := by first | exact zUp hZ hZ.size hC | exact zUp (zDrew hZ) (zDrew hZ).size hC | exact zUp (hZ.alloc hZ.size _) (hZ.alloc hZ.size _).size hC | exact zUp ((zDrew hZ).alloc (zDrew hZ).size _) ((zDrew hZ).alloc (zDrew hZ).size _).size hC
    clear hZ
    have hZ := hZ'
    clear hZ'
    have hK' : Below y1.heap.size y1 y2 := by first | exact zUp hK1 hK1.size hC | exact zUp (zDrew hK1) (zDrew hK1).size hC | exact zUp (hK1.alloc hK1.size _) (hK1.alloc hK1.size _).size hC | exact zUp ((zDrew hK1).alloc (zDrew hK1).size _) ((zDrew hK1).alloc (zDrew hK1).size _).size hC
    clear hK1
    have hK1 := hK'
    clear hK'
    have HR2 := κ (And.intro R1 (And.intro R2 R3))
    have hK2 : Below y2.heap.size y2 y2 := Below.refl _ _
    clear hC
    (try dsimp only)
    clear R1 R2 R3
    refine hK.out _ _ ?_ (fun hHeld => ?_)
    focus ((try dsimp only); first | exact HS.out _ hZ | exact HS.out _ (zDrew hZ) | exact HS.out _ (hZ.alloc hZ.size _) | exact HS.out _ ((zDrew hZ).alloc (zDrew hZ).size _) | exact HS.out _ (Below.setRow hZ hgz _) | exact HS.out _ (Below.setRow (hZ.alloc hZ.size _) hgz _))
    clear hK K
    try simp only [Act.put, List.setIfInBounds_toArray, List.set_cons_zero, List.set_cons_succ]
    refine rdyH 14 (fun K hK => ?_)
    go_simp
    go_at_call 34
    refine (HCN.out _ (by first | exact HBB.out _ hZ | exact HBB.out _ (zDrew hZ) | exact HBB.out _ (hZ.alloc hZ.size _) | exact HBB.out _ ((zDrew hZ).alloc (zDrew hZ).size _))).mono ?_
    rintro e y3 ⟨v7, v8, rfl, R1, R2, _, _, hC⟩
    obtain ⟨v7, x7, rfl⟩ := R1.form'
    obtain ⟨v8, x8, rfl⟩ := R2.form'
    (try have bx := bx.call hC)
    (try have bx := (Blk.new _ _ _).call hC)
    (try have bx := (Blk.drw (Blk.new _ _ _)).call hC)
    have hZ' : Below w0.heap.size w0 y3 := by first | exact zUp hZ hZ.size hC | exact zUp (zDrew hZ) (zDrew hZ).size hC | exact zUp (hZ.alloc hZ.size _) (hZ.alloc hZ.size _).size hC | exact zUp ((zDrew hZ).alloc (zDrew hZ).size _) ((zDrew hZ).alloc (zDrew hZ).size _).size hC
    clear hZ
    have hZ := hZ'
    clear hZ'
    have hK' : Below y1.heap.size y1 y3 := by first | exact zUp hK1 hK1.size hC | exact zUp (zDrew hK1) (zDrew hK1).size hC | exact zUp (hK1.alloc hK1.size _) (hK1.alloc hK1.size _).size hC | exact zUp ((zDrew hK1).alloc (zDrew hK1).size _) ((zDrew hK1).alloc (zDrew hK1).size _).size hC
    clear hK1
    have hK1 := hK'
    clear hK'
    have hK' : Below y2.heap.size y2 y3 := by first | exact zUp hK2 hK2.size hC | exact zUp (zDrew hK2) (zDrew hK2).size hC | exact zUp (hK2.alloc hK2.size _) (hK2.alloc hK2.size _).size hC | exact zUp ((zDrew hK2).alloc (zDrew hK2).size _) ((zDrew hK2).alloc (zDrew hK2).size _).size hC
    clear hK2
    have hK2 := hK'
    clear hK'
    have HR3 := κ (And.intro R1 R2)
    have hK3 : Below y3.heap.size y3 y3 := Below.refl _ _
    clear hC
    (try dsimp only)
    clear R1 R2
    refine hK.out _ _ ?_ (fun hHeld => ?_)
    focus ((try dsimp only); first | exact HS.out _ hZ | exact HS.out _ (zDrew hZ) | exact HS.out _ (hZ.alloc hZ.size _) | exact HS.out _ ((zDrew hZ).alloc (zDrew hZ).size _) | exact HS.out _ (Below.setRow hZ hgz _) | exact HS.out _ (Below.setRow (hZ.alloc hZ.size _) hgz _))
    clear hK K
    try simp only [Act.put, List.setIfInBounds_toArray, List.set_cons_zero, List.set_cons_succ]
    refine rdyH 17 (fun K hK => ?_)
    go_simp
    go_at_call 35
    refine (HCS.out _ (by first | exact HBB.out _ hZ | exact HBB.out _ (zDrew hZ) | exact HBB.out _ (hZ.alloc hZ.size _) | exact HBB.out _ ((zDrew hZ).alloc (zDrew hZ).size _))).mono ?_
    rintro e y4 ⟨v9, rfl, R1, hC⟩
    have F9 := R1.fresh9
    have R1 := R1.read
    obtain ⟨v9, x9, rfl⟩ := R1.form9
    have q9 := Off.fresh (g := w.heap.size + 1) F9 (Nat.lt_of_lt_of_le HBZ.out.lt (by first | exact hZ.size | exact (zDrew hZ).size | exact (hZ.alloc hZ.size _).size | exact ((zDrew hZ).alloc (zDrew hZ).size _).size))
    (try have o9 := Off.fresh F9 (Blk.lt (Blk.new _ _ _)))
    (try have o9 := Off.fresh F9 bx.lt)
    (try have bx := bx.call hC)
    (try have bx := (Blk.new _ _ _).call hC)
    (try have bx := (Blk.drw (Blk.new _ _ _)).call hC)
    have hZ' : Below w0.heap.size w0 y4 := by first | exact zUp hZ hZ.size hC | exact zUp (zDrew hZ) (zDrew hZ).size hC | exact zUp (hZ.alloc hZ.size _) (hZ.alloc hZ.size _).size hC | exact zUp ((zDrew hZ).alloc (zDrew hZ).size _) ((zDrew hZ).alloc (zDrew hZ).size _).size hC
    clear hZ
    have hZ := hZ'
    clear hZ'
    have hK' : Below y1.heap.size y1 y4 := by first | exact zUp hK1 hK1.size hC | exact zUp (zDrew hK1) (zDrew hK1).size hC | exact zUp (hK1.alloc hK1.size _) (hK1.alloc hK1.size _).size hC | exact zUp ((zDrew hK1).alloc (zDrew hK1).size _) ((zDrew hK1).alloc (zDrew hK1).size _).size hC
    clear hK1
    have hK1 := hK'
    clear hK'
    have hK' : Below y2.heap.size y2 y4 := by first | exact zUp hK2 hK2.size hC | exact zUp (zDrew hK2) (zDrew hK2).size hC | exact zUp (hK2.alloc hK2.size _) (hK2.alloc hK2.size _).size hC | exact zUp ((zDrew hK2).alloc (zDrew hK2).size _) ((zDrew hK2).alloc (zDrew hK2).size _).size hC
    clear hK2
    have hK2 := hK'
    clear hK'
    have hK' : Below y3.heap.size y3 y4 := by first | exact zUp hK3 hK3.size hC | exact zUp (zDrew hK3) (zDrew hK3).size hC | exact zUp (hK3.alloc hK3.size _) (hK3.alloc hK3.size _).size hC | exact zUp ((zDrew hK3).alloc (zDrew hK3).size _) ((zDrew hK3).alloc (zDrew hK3).size _).size hC
    clear hK3
    have hK3 := hK'
    clear hK'
    have HR4 := κ R1
    have hK4 : Below y4.heap.size y4 y4 := Below.refl _ _
    clear hC
    (try dsimp only)
    clear R1
    refine hK.out _ _ ?_ (fun hHeld => ?_)
    focus ((try dsimp only); first | exact HS.out _ hZ | exact HS.out _ (zDrew hZ) | exact HS.out _ (hZ.alloc hZ.size _) | exact HS.out _ ((zDrew hZ).alloc (zDrew hZ).size _) | exact HS.out _ (Below.setRow hZ hgz _) | exact HS.out _ (Below.setRow (hZ.alloc hZ.size _) hgz _))
    clear hK K
    try simp only [Act.put, List.setIfInBounds_toArray, List.set_cons_zero, List.set_cons_succ]
    refine tkH 20 ?_
    try simp only [Act.put, List.setIfInBounds_toArray, List.set_cons_zero, List.set_cons_succ]
    refine rdyH 22 (fun K hK => ?_)
    rw [if_pos (by rfl)]
    first | (refine wp_store_row _ _ _ rfl _ #[.string (bs r.call), .string (bs r.dst.disp), .string (bs r.dst.uri.scheme), .string (bs r.dst.uri.user), .string (bs r.dst.uri.host), .int .i64 r.dst.uri.port, .slice v1 r.dst.uri.ps.length x1, .slice v2 r.dst.uri.hs.length x2, .slice v3 (r.dst.ps.length + 1) x3, .string (bs r.fr.disp), .string (bs r.fr.uri.scheme), .string (bs r.fr.uri.user), .string (bs r.fr.uri.host), .int .i64 r.fr.uri.port, .slice v4 r.fr.uri.ps.length x4, .slice v5 r.fr.uri.hs.length x5, .slice v6 r.fr.ps.length x6, .string (bs c.uri.scheme), .string (bs c.uri.user), .string (bs c.uri.host), .int .i64 c.uri.port, .slice v7 c.uri.ps.length x7, .slice v8 c.uri.hs.length x8, .slice v9 r.routes.length x9, .int .i64 r.seq, .int .i64 0] rfl rfl _ _ bx (by kernel_rfl) (by rfl) (by kernel_rfl) ?_) | (refine wp_store_row _ _ _ rfl _ #[.string (bs r.call), .string (bs r.dst.disp), .string (bs r.dst.uri.scheme), .string (bs r.dst.uri.user), .string (bs r.dst.uri.host), .int .i64 r.dst.uri.port, .slice v1 r.dst.uri.ps.length x1, .slice v2 r.dst.uri.hs.length x2, .slice v3 (r.dst.ps.length + 1) x3, .string (bs r.fr.disp), .string (bs r.fr.uri.scheme), .string (bs r.fr.uri.user), .string (bs r.fr.uri.host), .int .i64 r.fr.uri.port, .slice v4 r.fr.uri.ps.length x4, .slice v5 r.fr.uri.hs.length x5, .slice v6 r.fr.ps.length x6, .string (bs c.uri.scheme), .string (bs c.uri.user), .string (bs c.uri.host), .int .i64 c.uri.port, .slice v7 c.uri.ps.length x7, .slice v8 c.uri.hs.length x8, .slice v9 r.routes.length x9, .int .i64 r.seq, .int .i64 0] rfl rfl _ _ (Blk.new _ _ _) (by kernel_rfl) (by rfl) (by kernel_rfl) ?_)
    try go_simp
    refine hK.out _ _ ?_ (fun hHeld => ?_)
    focus ((try dsimp only); first | exact HS.out _ hZ | exact HS.out _ (zDrew hZ) | exact HS.out _ (hZ.alloc hZ.size _) | exact HS.out _ ((zDrew hZ).alloc (zDrew hZ).size _) | exact HS.out _ (Below.setRow hZ hgz _) | exact HS.out _ (Below.setRow (hZ.alloc hZ.size _) hgz _))
    clear hK K
    try simp only [Act.put, List.setIfInBounds_toArray, List.set_cons_zero, List.set_cons_succ]
    refine wpAnyH_done (by kernel_rfl) ?_ _
    go_wp2
    go_meet
    case rel => first | exact leafA bx HR1.out HR2.out HR3.out HR4.out hK1 hK2 hK3 o9 hgz hZ q9 rfl rfl | exact leafB HR1.out HR2.out HR3.out HR4.out hK1 hK2 hK3 o9 hgz hZ q9 rfl rfl
   exact AllReadyH.nil
  case rest =>
   obtain ⟨g, v1, x1, v2, x2, v3, x3, v4, x4, v5, x5, v6, x6, v7, x7, v8, x8, v9, x9, rfl, bx, hgz, hZ2, R1, R2, R3, R4, R5, R6, R7, R8, R9, q9⟩ := hcut
   have hBB := HB.out.trans (hZ2.mono HB.out.size)
   have bz := HBZ.out.call hZ2
   clear p9 p10 p11 p12 p13 p14 p15 p16 p17 p18 p19 p20 p21 p22 p23 p24 p25 p26 p27 p28 p32 p33 k1 k2 k3 k4 k5 k6 hZ HS HTG HOW HCS HCN HX HK H7 HBB HTK hbl
   have z1 : wc.cell? ⟨g, 1, none⟩ = some (.string (bs r.dst.disp)) := boxedCell bx 1
   have z2 : wc.cell? ⟨g, 2, none⟩ = some (.string (bs r.dst.uri.scheme)) := boxedCell bx 2
   have z3 : wc.cell? ⟨g, 3, none⟩ = some (.string (bs r.dst.uri.user)) := boxedCell bx 3
   have z4 : wc.cell? ⟨g, 4, none⟩ = some (.string (bs r.dst.uri.host)) := boxedCell bx 4
   have z5 : wc.cell? ⟨g, 5, none⟩ = some (.int .i64 r.dst.uri.port) := boxedCell bx 5
   have z6 : wc.cell? ⟨g, 6, none⟩ = some (.slice v1 r.dst.uri.ps.length x1) := boxedCell bx 6
   have z7 : wc.cell? ⟨g, 7, none⟩ = some (.slice v2 r.dst.uri.hs.length x2) := boxedCell bx 7
   have z8 : wc.cell? ⟨g, 8, none⟩ = some (.slice v3 (r.dst.ps.length + 1) x3) := boxedCell bx 8
   rcases hR with ⟨hc0, hR⟩ | ⟨hc0, hR⟩
   ·exact absurd HK9.out.2.2.2.2 hc0
   ·have HR := κ hR
    subst hc0
    clear hR
    go_upto_region 9 with (go_at_call 36; refine (HCK.out _ _ _ _ (HM.out.below hBB) R1 R2 R3).mono ?_; rintro e y5 ⟨rfl, hC5⟩; have bz5 := bz.call hC5; have bx5 := bx.call hC5; have hB5 := hBB.trans (hC5.mono hBB.size))
    refine wp_region_lit ?_
    refine wpList_loadB (vs := #[.string (bs r.call), .string (bs r.dst.disp), .string (bs r.dst.uri.scheme), .string (bs r.dst.uri.user), .string (bs r.dst.uri.host), .int .i64 r.dst.uri.port, .slice v1 r.dst.uri.ps.length x1, .slice v2 r.dst.uri.hs.length x2, .slice v3 (r.dst.ps.length + 1) x3, .string (bs r.fr.disp), .string (bs r.fr.uri.scheme), .string (bs r.fr.uri.user), .string (bs r.fr.uri.host), .int .i64 r.fr.uri.port, .slice v4 r.fr.uri.ps.length x4, .slice v5 r.fr.uri.hs.length x5, .slice v6 r.fr.ps.length x6, .string (bs c.uri.scheme), .string (bs c.uri.user), .string (bs c.uri.host), .int .i64 c.uri.port, .slice v7 c.uri.ps.length x7, .slice v8 c.uri.hs.length x8, .slice v9 r.routes.length x9, .int .i64 r.seq, .int .i64 0]) rfl rfl rfl Tryz.underlying34 (by kernel_rfl) bx5 (by kernel_rfl) ?_
    refine wpList_storeB (vs := #[.string (bs r.call), .string (bs r.dst.disp), .string (bs r.dst.uri.scheme), .string (bs r.dst.uri.user), .string (bs r.dst.uri.host), .int .i64 r.dst.uri.port, .slice v1 r.dst.uri.ps.length x1, .slice v2 r.dst.uri.hs.length x2, .slice v3 (r.dst.ps.length + 1) x3, .string (bs r.fr.disp), .string (bs r.fr.uri.scheme), .string (bs r.fr.uri.user), .string (bs r.fr.uri.host), .int .i64 r.fr.uri.port, .slice v4 r.fr.uri.ps.length x4, .slice v5 r.fr.uri.hs.length x5, .slice v6 r.fr.ps.length x6, .string (bs c.uri.scheme), .string (bs c.uri.user), .string (bs c.uri.host), .int .i64 c.uri.port, .slice v7 c.uri.ps.length x7, .slice v8 c.uri.hs.length x8, .slice v9 r.routes.length x9, .int .i64 r.seq, .int .i64 0]) (cs' := #[.string (bs r.call), .string (bs r.dst.disp), .string (bs r.dst.uri.scheme), .string (bs r.dst.uri.user), .string (bs r.dst.uri.host), .int .i64 r.dst.uri.port, .slice v1 r.dst.uri.ps.length x1, .slice v2 r.dst.uri.hs.length x2, .slice v3 (r.dst.ps.length + 1) x3, .string (bs r.fr.disp), .string (bs r.fr.uri.scheme), .string (bs r.fr.uri.user), .string (bs r.fr.uri.host), .int .i64 r.fr.uri.port, .slice v4 r.fr.uri.ps.length x4, .slice v5 r.fr.uri.hs.length x5, .slice v6 r.fr.ps.length x6, .string (bs c.uri.scheme), .string (bs c.uri.user), .string (bs c.uri.host), .int .i64 c.uri.port, .slice v7 c.uri.ps.length x7, .slice v8 c.uri.hs.length x8, .slice v9 r.routes.length x9, .int .i64 r.seq, .int .i64 0]) rfl rfl rfl rfl (by kernel_rfl) bz5 (Nat.le_of_eq (by kernel_rfl)) (by kernel_rfl) (by kernel_rfl) ?_
    intro w9 bz9 hfar9 hsz9 hbel9
    go_wp2
    refine bodyPost_ret (results_ct rfl rfl rfl Tryz.underlying34 (by kernel_rfl) bz9) rfl ?_
    have hBf := hB5.trans (hbel9 _ (by omega))
    have hs9 := Nat.le_of_eq hsz9.symm
    have go : ∀ {v : Value} {L : List Prm}, RPrms wc v L → RPrms w9 v L := fun h => Off.prms (h.below hC5 (ρ _)) (Off.noBool (h.below hC5 (ρ _)) bz5 (by kernel_rfl)) hfar9 hs9
    refine ⟨_, congrArg (fun x : Dlg × Int => Ending.returned (.tuple #[.agg #[.string (bs r.call), .string (bs r.dst.disp), .string (bs r.dst.uri.scheme), .string (bs r.dst.uri.user), .string (bs r.dst.uri.host), .int .i64 r.dst.uri.port, .slice v1 r.dst.uri.ps.length x1, .slice v2 r.dst.uri.hs.length x2, .slice v3 (r.dst.ps.length + 1) x3, .string (bs r.fr.disp), .string (bs r.fr.uri.scheme), .string (bs r.fr.uri.user), .string (bs r.fr.uri.host), .int .i64 r.fr.uri.port, .slice v4 r.fr.uri.ps.length x4, .slice v5 r.fr.uri.hs.length x5, .slice v6 r.fr.ps.length x6, .string (bs c.uri.scheme), .string (bs c.uri.user), .string (bs c.uri.host), .int .i64 c.uri.port, .slice v7 c.uri.ps.length x7, .slice v8 c.uri.hs.length x8, .slice v9 r.routes.length x9, .int .i64 r.seq, .int .i64 0], .int .i64 x.2])) HR.out.symm, ?_, hBf⟩
    rw [HR.out]
    exact ⟨(.slice v1 r.dst.uri.ps.length x1), (.slice v2 r.dst.uri.hs.length x2), (.slice v3 (r.dst.ps.length + 1) x3), (.slice v4 r.fr.uri.ps.length x4), (.slice v5 r.fr.uri.hs.length x5), (.slice v6 r.fr.ps.length x6), (.slice v7 c.uri.ps.length x7), (.slice v8 c.uri.hs.length x8), (.slice v9 r.routes.length x9), by kernel_rfl, go R1, go R2, go R3, go R4, go R5, go R6, go R7, go R8, Off.strs (R9.below hC5 (ρ _)) q9 hfar9 hs9⟩
end Go.Proofs.YtipdiddjhimdcaaGreatDoor
