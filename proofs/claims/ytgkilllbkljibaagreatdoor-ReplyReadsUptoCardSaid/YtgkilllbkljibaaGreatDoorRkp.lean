/- Contracts of Go functions, and plain laws. No condition but those told. -/
import Derived.Test.YtgkilllbkljibaaGreatDoorRmA
import Derived.Test.YtgkilllbkljibaaGreatDoorApm
set_option linter.unusedSimpArgs false
set_option linter.unusedVariables false
set_option maxRecDepth 100000
namespace Go.Proofs.YtgkilllbkljibaaGreatDoor
open Go.RowKit Go.Sort
structure Kp (g1 g2 : Nat) (w w' : World) : Prop where
 b : Below g1 w w'
 k : KeptB g1 g2 w w'
theorem Kp.refl (g1 g2 : Nat) (w : World) : Kp g1 g2 w w := ⟨Below.refl _ _, KeptB.refl _ _ _⟩
theorem Kp.trans {g1 g2 : Nat} {w w1 w2 : World} (h : Kp g1 g2 w w1) (h' : Kp g1 g2 w1 w2) : Kp g1 g2 w w2 := ⟨h.b.trans h'.b, h.k.trans h'.k⟩
theorem Kp.of_below {g1 g2 : Nat} {w w' : World} (h : Below w.heap.size w w') (hg : g1 ≤ w.heap.size) : Kp g1 g2 w w' := ⟨h.mono hg, KeptB.of_below h⟩
theorem Kp.store1 {g1 g2 : Nat} {w w' : World} (hf : ∀ k, k ≠ g1 → w'.heap[k]? = w.heap[k]?) (hs : w'.heap.size = w.heap.size) (hl : ∀ B, B ≤ g1 → Below B w w') : Kp g1 g2 w w' := ⟨hl _ (ρ _), KeptB.store1 hf hs⟩
theorem Kp.store2 {g1 g2 : Nat} {w w' : World} (hg : g1 < g2) (hf : ∀ k, k ≠ g2 → w'.heap[k]? = w.heap[k]?) (hs : w'.heap.size = w.heap.size) (hl : ∀ B, B ≤ g2 → Below B w w') : Kp g1 g2 w w' := ⟨hl _ (Nat.le_of_lt hg), KeptB.store2 hf hs⟩
theorem Kp.wide {g1 g2 : Nat} {w w' : World} (h : Kp g1 g1 w w') : Kp g1 g2 w w' := ⟨h.b, h.k.size, fun k hk a _ => h.k.blk k hk a a⟩
theorem RPrms.kp {g1 g2 : Nat} {w w' : World} {v : Value} {L : List Prm} (h : RPrms w v L) (o1 : Off g1 v) (o2 : Off g2 v) (hk : KeptB g1 g2 w w') : RPrms w' v L := by
 obtain ⟨ao, cap, e⟩ := h.form'
 refine h.heapA hk.size fun hL a n c e2 hlt => ?_
 have hn : n ≠ 0 := by
  rw [e] at e2
  injection e2 with _ e3 _
  rw [← e3]
  exact fun h0 => hL (List.length_eq_zero_iff.1 h0)
 obtain ⟨b, o, p⟩ := a
 exact hk.blk _ hlt (o1 _ _ _ _ _ e2 hn) (o2 _ _ _ _ _ e2 hn)
theorem RStrs.kp {g1 g2 : Nat} {w w' : World} {v : Value} {L : List (List UInt8)} (h : RStrs w v L) (o1 : Off g1 v) (o2 : Off g2 v) (hk : KeptB g1 g2 w w') : RStrs w' v L := by
 rcases h with h | ⟨b, off, cap, h1, h2, h2', h3, h4⟩
 ·exact .inl h
 ·by_cases hL : L.length = 0
  ·exact .inl ⟨⟨_, _, by rw [h1, hL]⟩, hL, by rw [List.length_eq_zero_iff.1 hL]; rfl⟩
  have hc : ∀ o, w'.cell? ⟨b, o, none⟩ = w.cell? ⟨b, o, none⟩ := fun o => World.cell?_of_block (w := w) (a := ⟨b, o, none⟩) (hk.blk b h3 (o1 _ _ _ _ _ h1 hL) (o2 _ _ _ _ _ h1 hL))
  refine .inr ⟨b, off, cap, h1, h2, h2', Nat.lt_of_lt_of_le h3 hk.size, fun j u hj => ?_⟩
  rw [hc]; exact h4 j u hj
def RP2 (g1 g2 : Nat) (w : World) (v : Value) (L : List Prm) : Prop := RPrms w v L ∧ Off g1 v ∧ Off g2 v
def RS2 (g1 g2 : Nat) (w : World) (v : Value) (L : List (List UInt8)) : Prop := RStrs w v L ∧ (L = [] ∨ Fresh (g2 + 1) v)
def RA2 (g1 g2 : Nat) (w : World) (v : Value) (L : List Adr) : Prop := RAdrsF (g2 + 1) w v L
theorem RS2.off {g1 g2 g : Nat} {w : World} {v : Value} {L : List (List UInt8)} (h : RS2 g1 g2 w v L) (hg : g ≤ g2) : Off g v := by
 rcases h.2 with rfl | hF
 ·obtain ⟨ao, cap, rfl, _⟩ := h.1.form
  exact fun _ _ _ _ _ e hn => by injection e with _ e _; exact absurd e.symm hn
 ·exact Off.fresh hF (by omega)
theorem RP2.kp {g1 g2 : Nat} {w w' : World} {v : Value} {L : List Prm} (h : RP2 g1 g2 w v L) (_ : g1 < g2) (hk : KeptB g1 g2 w w') : RP2 g1 g2 w' v L := ⟨h.1.kp h.2.1 h.2.2 hk, h.2⟩
theorem RS2.kp {g1 g2 : Nat} {w w' : World} {v : Value} {L : List (List UInt8)} (h : RS2 g1 g2 w v L) (_ : g1 < g2) (hk : KeptB g1 g2 w w') : RS2 g1 g2 w' v L := ⟨h.1.kp (h.off (by omega)) (h.off (ρ _)) hk, h.2⟩
theorem RA2.kp {g1 g2 : Nat} {w w' : World} {v : Value} {L : List Adr} (h : RA2 g1 g2 w v L) (hg : g1 < g2) (hk : KeptB g1 g2 w w') : RA2 g1 g2 w' v L := RAdrsF.keptB h (by omega) (by omega) hk
theorem RP2.old {g1 g2 : Nat} {w : World} {v : Value} {L : List Prm} (h : RPrms w v L) (h1 : w.heap.size ≤ g1) (hg : g1 < g2) : RP2 g1 g2 w v L := ⟨h, Off.old h h1, Off.old h (by omega)⟩
theorem RP2.new {g1 g2 B : Nat} {w : World} {v : Value} {L : List Prm} (h : RPrms w v L) (hF : Fresh B v) (hg : g1 < g2) (hB : g2 < B) : RP2 g1 g2 w v L := ⟨h, Off.fresh hF (by omega), Off.fresh hF hB⟩
theorem RS2.nil {g1 g2 : Nat} {w : World} {v : Value} (h : RStrs w v []) : RS2 g1 g2 w v [] := ⟨h, .inl rfl⟩
theorem Strs.fresh9 {w : World} {B : Nat} {e : TypeId} {v : Value} {L : List (List UInt8)} (h : Strs w B e v L) : Fresh B v := by
 rcases h.2 with ⟨rfl, _⟩ | ⟨g, cap, cur, rfl, hb, _⟩
 ·exact Fresh.nil _ _ _
 ·intro a n c e
  injection e with e
  injection e with e
  rw [← e]; exact hb
theorem RS2.new {g1 g2 B : Nat} {w : World} {e : TypeId} {v : Value} {L : List (List UInt8)} (h : Strs w B e v L) (hg : g1 < g2) (hB : g2 < B) : RS2 g1 g2 w v L := ⟨h.read, .inr (h.fresh9.mono hB)⟩
def RQF (g1 g2 : Nat) (w : World) (v : Value) (r : Rqt) : Prop :=
 ∃ u1 u2 u3 u4 u5 u6 u7 u8 u9 u10 u11 u12, v = .agg #[(.string (bs r.meth)), (.string (bs r.tgt.scheme)), (.string (bs r.tgt.user)), (.string (bs r.tgt.host)), (.int .i64 r.tgt.port), u1, u2, (.string (bs r.branch)), (.string (bs r.by_)), (.string (bs r.fr.disp)), (.string (bs r.fr.uri.scheme)), (.string (bs r.fr.uri.user)), (.string (bs r.fr.uri.host)), (.int .i64 r.fr.uri.port), u3, u4, u5, (.string (bs r.dst.disp)), (.string (bs r.dst.uri.scheme)), (.string (bs r.dst.uri.user)), (.string (bs r.dst.uri.host)), (.int .i64 r.dst.uri.port), u6, u7, u8, (.string (bs r.fromT)), (.string (bs r.toT)), (.string (bs r.call)), (.int .i64 r.seq), (.int .i64 r.exp), (.string (bs r.evn)), u9, u10, u11, u12, (.string (bs r.typ)), (.string (bs r.mat)), (.string (bs r.body))] ∧ RP2 g1 g2 w u1 r.tgt.ps ∧ RP2 g1 g2 w u2 r.tgt.hs ∧ RP2 g1 g2 w u3 r.fr.uri.ps ∧ RP2 g1 g2 w u4 r.fr.uri.hs ∧ RP2 g1 g2 w u5 r.fr.ps ∧ RP2 g1 g2 w u6 r.dst.uri.ps ∧ RP2 g1 g2 w u7 r.dst.uri.hs ∧ RP2 g1 g2 w u8 r.dst.ps ∧ RP2 g1 g2 w u9 r.evp ∧ RA2 g1 g2 w u10 r.contact ∧ RS2 g1 g2 w u11 r.routes ∧ RS2 g1 g2 w u12 r.accept
theorem RQF.kp {g1 g2 : Nat} {w w' : World} {v : Value} {r : Rqt} (h : RQF g1 g2 w v r) (hg : g1 < g2) (hk : KeptB g1 g2 w w') : RQF g1 g2 w' v r := by
 obtain ⟨u1, u2, u3, u4, u5, u6, u7, u8, u9, u10, u11, u12, e, h1, h2, h3, h4, h5, h6, h7, h8, h9, h10, h11, h12⟩ := h
 exact ⟨u1, u2, u3, u4, u5, u6, u7, u8, u9, u10, u11, u12, e, h1.kp hg hk, h2.kp hg hk, h3.kp hg hk, h4.kp hg hk, h5.kp hg hk, h6.kp hg hk, h7.kp hg hk, h8.kp hg hk, h9.kp hg hk, h10.kp hg hk, h11.kp hg hk, h12.kp hg hk⟩
theorem RQF.read {g1 g2 : Nat} {w : World} {v : Value} {r : Rqt} (h : RQF g1 g2 w v r) : RRqt w v r := by
 obtain ⟨u1, u2, u3, u4, u5, u6, u7, u8, u9, u10, u11, u12, e, h1, h2, h3, h4, h5, h6, h7, h8, h9, h10, h11, h12⟩ := h
 exact ⟨u1, u2, u3, u4, u5, u6, u7, u8, u9, u10, u11, u12, e, h1.1, h2.1, h3.1, h4.1, h5.1, h6.1, h7.1, h8.1, h9.1, RAdrsF.read h10, h11.1, h12.1⟩
theorem RQF.old {g1 g2 : Nat} {w : World} {v : Value} {r : Rqt} (h : RRqt w v r) (hz : w.heap.size ≤ g1) (hg : g1 < g2) (hc : r.contact = []) (hro : r.routes = []) (hac : r.accept = []) : RQF g1 g2 w v r := by
 obtain ⟨u1, u2, u3, u4, u5, u6, u7, u8, u9, u10, u11, u12, e, h1, h2, h3, h4, h5, h6, h7, h8, h9, h10, h11, h12⟩ := h
 rw [hc] at h10
 rw [hro] at h11
 rw [hac] at h12
 refine ⟨u1, u2, u3, u4, u5, u6, u7, u8, u9, u10, u11, u12, e, RP2.old h1 hz hg, RP2.old h2 hz hg, RP2.old h3 hz hg, RP2.old h4 hz hg, RP2.old h5 hz hg, RP2.old h6 hz hg, RP2.old h7 hz hg, RP2.old h8 hz hg, RP2.old h9 hz hg, ?_, ?_, ?_⟩
 ·rw [hc]
  rcases h10 with ⟨h0, _⟩ | ⟨b, off, cap, h0, _⟩
  ·exact .inl ⟨h0, rfl⟩
  ·exact .inl ⟨⟨_, _, h0⟩, rfl⟩
 ·rw [hro]; exact RS2.nil h11
 ·rw [hac]; exact RS2.nil h12
theorem RQF.size {g1 g2 : Nat} {w : World} {rs : Array Value} {r : Rqt} (h : RQF g1 g2 w (.agg rs) r) : rs.size = 38 := by
 obtain ⟨u1, u2, u3, u4, u5, u6, u7, u8, u9, u10, u11, u12, e, _⟩ := h
 injection e with e
 rw [e]; rfl
theorem RQF.one {g1 g2 : Nat} {w : World} {rs : Array Value} {r : Rqt} (h : RQF g1 g2 w (.agg rs) r) : (rs.toList.all fun v => v.oneCell') = true := by
 obtain ⟨u1, u2, u3, u4, u5, u6, u7, u8, u9, u10, u11, u12, e, h1, h2, h3, h4, h5, h6, h7, h8, h9, h10, h11, h12⟩ := h
 obtain ⟨_, _, rfl⟩ : ∃ ao cap, u1 = .slice ao r.tgt.ps.length cap := by
  obtain ⟨ao, cap, e2, _⟩ := h1.1.form
  exact ⟨ao, cap, e2⟩
 obtain ⟨_, _, rfl⟩ : ∃ ao cap, u2 = .slice ao r.tgt.hs.length cap := by
  obtain ⟨ao, cap, e2, _⟩ := h2.1.form
  exact ⟨ao, cap, e2⟩
 obtain ⟨_, _, rfl⟩ : ∃ ao cap, u3 = .slice ao r.fr.uri.ps.length cap := by
  obtain ⟨ao, cap, e2, _⟩ := h3.1.form
  exact ⟨ao, cap, e2⟩
 obtain ⟨_, _, rfl⟩ : ∃ ao cap, u4 = .slice ao r.fr.uri.hs.length cap := by
  obtain ⟨ao, cap, e2, _⟩ := h4.1.form
  exact ⟨ao, cap, e2⟩
 obtain ⟨_, _, rfl⟩ : ∃ ao cap, u5 = .slice ao r.fr.ps.length cap := by
  obtain ⟨ao, cap, e2, _⟩ := h5.1.form
  exact ⟨ao, cap, e2⟩
 obtain ⟨_, _, rfl⟩ : ∃ ao cap, u6 = .slice ao r.dst.uri.ps.length cap := by
  obtain ⟨ao, cap, e2, _⟩ := h6.1.form
  exact ⟨ao, cap, e2⟩
 obtain ⟨_, _, rfl⟩ : ∃ ao cap, u7 = .slice ao r.dst.uri.hs.length cap := by
  obtain ⟨ao, cap, e2, _⟩ := h7.1.form
  exact ⟨ao, cap, e2⟩
 obtain ⟨_, _, rfl⟩ : ∃ ao cap, u8 = .slice ao r.dst.ps.length cap := by
  obtain ⟨ao, cap, e2, _⟩ := h8.1.form
  exact ⟨ao, cap, e2⟩
 obtain ⟨_, _, rfl⟩ : ∃ ao cap, u9 = .slice ao r.evp.length cap := by
  obtain ⟨ao, cap, e2, _⟩ := h9.1.form
  exact ⟨ao, cap, e2⟩
 obtain ⟨_, _, rfl⟩ : ∃ ao cap, u10 = .slice ao r.contact.length cap := by
  obtain ⟨ao, cap, e2, _⟩ := (RAdrsF.read h10).form
  exact ⟨ao, cap, e2⟩
 obtain ⟨_, _, rfl⟩ : ∃ ao cap, u11 = .slice ao r.routes.length cap := by
  obtain ⟨ao, cap, e2, _⟩ := h11.1.form
  exact ⟨ao, cap, e2⟩
 obtain ⟨_, _, rfl⟩ : ∃ ao cap, u12 = .slice ao r.accept.length cap := by
  obtain ⟨ao, cap, e2, _⟩ := h12.1.form
  exact ⟨ao, cap, e2⟩
 injection e with e
 subst e
 kernel_rfl
theorem RQF.from_ {g1 g2 : Nat} {w : World} {rs : Array Value} {r : Rqt} (h : RQF g1 g2 w (.agg rs) r) : rs[25]? = some (.string (bs r.fromT)) := by
 obtain ⟨u1, u2, u3, u4, u5, u6, u7, u8, u9, u10, u11, u12, e, _⟩ := h
 injection e with e
 rw [e]; rfl
theorem RQF.routes_ {g1 g2 : Nat} {w : World} {rs : Array Value} {r : Rqt} (h : RQF g1 g2 w (.agg rs) r) : ∃ v, rs[33]? = some v ∧ RS2 g1 g2 w v r.routes := by
 obtain ⟨u1, u2, u3, u4, u5, u6, u7, u8, u9, u10, u11, u12, e, h1, h2, h3, h4, h5, h6, h7, h8, h9, h10, h11, h12⟩ := h
 injection e with e
 exact ⟨u11, by rw [e]; rfl, h11⟩
theorem RQF.accept_ {g1 g2 : Nat} {w : World} {rs : Array Value} {r : Rqt} (h : RQF g1 g2 w (.agg rs) r) : ∃ v, rs[34]? = some v ∧ RS2 g1 g2 w v r.accept := by
 obtain ⟨u1, u2, u3, u4, u5, u6, u7, u8, u9, u10, u11, u12, e, h1, h2, h3, h4, h5, h6, h7, h8, h9, h10, h11, h12⟩ := h
 injection e with e
 exact ⟨u12, by rw [e]; rfl, h12⟩
theorem RQF.out {g1 g2 g : Nat} {w w' : World} {v : Value} {r : Rqt} {t : TypeId} {cs : Array Value} (h : RQF g1 g2 w v r) (hg : g1 < g2) (hg2 : g ≤ g2) (hb : Blk w g t cs) (hn : (cs.toList.all fun x => !isBool x) = true) (hf : ∀ k, k ≠ g → w'.heap[k]? = w.heap[k]?) (hs : w'.heap.size = w.heap.size) : RRqt w' v r := by
 have hs' := Nat.le_of_eq hs.symm
 have go : ∀ {u : Value} {L : List Prm}, RP2 g1 g2 w u L → RPrms w' u L := fun h => Off.prms h.1 (Off.noBool h.1 hb hn) hf hs'
 have gs : ∀ {u : Value} {L : List (List UInt8)}, RS2 g1 g2 w u L → RStrs w' u L := fun h => RStrs.kp (g1 := g) (g2 := g) h.1 (h.off hg2) (h.off hg2) (KeptB.store1 hf hs)
 obtain ⟨u1, u2, u3, u4, u5, u6, u7, u8, u9, u10, u11, u12, e, h1, h2, h3, h4, h5, h6, h7, h8, h9, h10, h11, h12⟩ := h
 exact ⟨u1, u2, u3, u4, u5, u6, u7, u8, u9, u10, u11, u12, e, go h1, go h2, go h3, go h4, go h5, go h6, go h7, go h8, go h9, RAdrsF.read (RAdrsF.keptB (g1 := g) (g2 := g) h10 (by omega) (by omega) (KeptB.store1 hf hs)), gs h11, gs h12⟩
theorem must_flds (m : Mg) (h : (mustS m).2 = 0) : (mustS m).1.contact = [] ∧ (mustS m).1.routes = [] ∧ (mustS m).1.accept = [] ∧ (mustS m).1.tgt = uri0 ∧ (mustS m).1.exp = -1 ∧ (mustS m).1.evn = [] ∧ (mustS m).1.evp = [] ∧ (mustS m).1.typ = [] ∧ (mustS m).1.mat = [] := by
 revert h
 unfold mustS must2 must3
 repeat' split
 all_goals first | (intro h; exact absurd h (by decide)) | (intro h; exact absurd h ‹_›) | (intro _; exact ⟨rfl, rfl, rfl, rfl, rfl, rfl, rfl, rfl, rfl⟩)
theorem RQF.exp_ {g1 g2 : Nat} {w : World} {rs : Array Value} {r : Rqt} {n : Int} (h : RQF g1 g2 w (.agg rs) r) : RQF g1 g2 w (.agg (rs.setIfInBounds 29 (.int .i64 n))) { r with exp := n } := by
 obtain ⟨u1, u2, u3, u4, u5, u6, u7, u8, u9, u10, u11, u12, e, h1, h2, h3, h4, h5, h6, h7, h8, h9, h10, h11, h12⟩ := h
 injection e with e
 subst e
 exact ⟨u1, u2, u3, u4, u5, u6, u7, u8, u9, u10, u11, u12, by kernel_rfl, h1, h2, h3, h4, h5, h6, h7, h8, h9, h10, h11, h12⟩
theorem RQF.evt_ {g1 g2 : Nat} {w : World} {rs : Array Value} {r : Rqt} {N : List UInt8} {u : Value} {L : List Prm} (h : RQF g1 g2 w (.agg rs) r) (hu : RP2 g1 g2 w u L) : RQF g1 g2 w (.agg (setAll rs 30 [.string (bs N), u])) { r with evn := N, evp := L } := by
 obtain ⟨u1, u2, u3, u4, u5, u6, u7, u8, u9, u10, u11, u12, e, h1, h2, h3, h4, h5, h6, h7, h8, h9, h10, h11, h12⟩ := h
 injection e with e
 subst e
 exact ⟨u1, u2, u3, u4, u5, u6, u7, u8, u, u10, u11, u12, by kernel_rfl, h1, h2, h3, h4, h5, h6, h7, h8, hu, h10, h11, h12⟩
theorem RQF.contact_ {g1 g2 : Nat} {w : World} {rs : Array Value} {r : Rqt} {u : Value} {L : List Adr} (h : RQF g1 g2 w (.agg rs) r) (hu : RA2 g1 g2 w u L) : RQF g1 g2 w (.agg (rs.setIfInBounds 32 u)) { r with contact := L } := by
 obtain ⟨u1, u2, u3, u4, u5, u6, u7, u8, u9, u10, u11, u12, e, h1, h2, h3, h4, h5, h6, h7, h8, h9, h10, h11, h12⟩ := h
 injection e with e
 subst e
 exact ⟨u1, u2, u3, u4, u5, u6, u7, u8, u9, u, u11, u12, by kernel_rfl, h1, h2, h3, h4, h5, h6, h7, h8, h9, hu, h11, h12⟩
theorem RQF.typ_ {g1 g2 : Nat} {w : World} {rs : Array Value} {r : Rqt} {N : List UInt8} (h : RQF g1 g2 w (.agg rs) r) : RQF g1 g2 w (.agg (rs.setIfInBounds 35 (.string (bs N)))) { r with typ := N } := by
 obtain ⟨u1, u2, u3, u4, u5, u6, u7, u8, u9, u10, u11, u12, e, h1, h2, h3, h4, h5, h6, h7, h8, h9, h10, h11, h12⟩ := h
 injection e with e
 subst e
 exact ⟨u1, u2, u3, u4, u5, u6, u7, u8, u9, u10, u11, u12, by kernel_rfl, h1, h2, h3, h4, h5, h6, h7, h8, h9, h10, h11, h12⟩
theorem RQF.mat_ {g1 g2 : Nat} {w : World} {rs : Array Value} {r : Rqt} {N : List UInt8} (h : RQF g1 g2 w (.agg rs) r) : RQF g1 g2 w (.agg (rs.setIfInBounds 36 (.string (bs N)))) { r with mat := N } := by
 obtain ⟨u1, u2, u3, u4, u5, u6, u7, u8, u9, u10, u11, u12, e, h1, h2, h3, h4, h5, h6, h7, h8, h9, h10, h11, h12⟩ := h
 injection e with e
 subst e
 exact ⟨u1, u2, u3, u4, u5, u6, u7, u8, u9, u10, u11, u12, by kernel_rfl, h1, h2, h3, h4, h5, h6, h7, h8, h9, h10, h11, h12⟩
theorem RQF.rts_ {g1 g2 : Nat} {w : World} {rs : Array Value} {r : Rqt} {u : Value} {L : List (List UInt8)} (h : RQF g1 g2 w (.agg rs) r) (hu : RS2 g1 g2 w u L) : RQF g1 g2 w (.agg (rs.setIfInBounds 33 u)) { r with routes := L } := by
 obtain ⟨u1, u2, u3, u4, u5, u6, u7, u8, u9, u10, u11, u12, e, h1, h2, h3, h4, h5, h6, h7, h8, h9, h10, h11, h12⟩ := h
 injection e with e
 subst e
 exact ⟨u1, u2, u3, u4, u5, u6, u7, u8, u9, u10, u, u12, by kernel_rfl, h1, h2, h3, h4, h5, h6, h7, h8, h9, h10, hu, h12⟩
theorem RQF.acc_ {g1 g2 : Nat} {w : World} {rs : Array Value} {r : Rqt} {u : Value} {L : List (List UInt8)} (h : RQF g1 g2 w (.agg rs) r) (hu : RS2 g1 g2 w u L) : RQF g1 g2 w (.agg (rs.setIfInBounds 34 u)) { r with accept := L } := by
 obtain ⟨u1, u2, u3, u4, u5, u6, u7, u8, u9, u10, u11, u12, e, h1, h2, h3, h4, h5, h6, h7, h8, h9, h10, h11, h12⟩ := h
 injection e with e
 subst e
 exact ⟨u1, u2, u3, u4, u5, u6, u7, u8, u9, u10, u11, u, by kernel_rfl, h1, h2, h3, h4, h5, h6, h7, h8, h9, h10, h11, hu⟩
theorem RQF.tgt_ {g1 g2 : Nat} {w : World} {rs : Array Value} {r : Rqt} {a : Uri} {u v : Value} (h : RQF g1 g2 w (.agg rs) r) (hu : RP2 g1 g2 w u a.ps) (hv : RP2 g1 g2 w v a.hs) : RQF g1 g2 w (.agg (setAll rs 1 [sv a.scheme, sv a.user, sv a.host, .int .i64 a.port, u, v])) { r with tgt := a } := by
 obtain ⟨u1, u2, u3, u4, u5, u6, u7, u8, u9, u10, u11, u12, e, h1, h2, h3, h4, h5, h6, h7, h8, h9, h10, h11, h12⟩ := h
 injection e with e
 subst e
 exact ⟨u, v, u3, u4, u5, u6, u7, u8, u9, u10, u11, u12, by kernel_rfl, hu, hv, h3, h4, h5, h6, h7, h8, h9, h10, h11, h12⟩
end Go.Proofs.YtgkilllbkljibaaGreatDoor
