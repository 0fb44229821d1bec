/- Contracts of Go functions, and plain laws. No condition but those told. -/
import Derived.Test.YtgkilllbkljibaaGreatDoorR16
import Derived.Test.YtgkilllbkljibaaGreatDoorR14
set_option linter.unusedSimpArgs false
set_option linter.unusedVariables false
namespace Go.Proofs.YtgkilllbkljibaaGreatDoor
open Go.RowKit
def RRqt (w : World) (v : Value) (r : Rqt) : Prop :=
 ∃ u1 u2 u3 u4 u5 u6 u7 u8 u9 u10 u11 u12, v = .agg #[(.string (bs r.meth)), (.string (bs r.tgt.scheme)), (.string (bs r.tgt.user)), (.string (bs r.tgt.host)), (.int .i64 r.tgt.port), u1, u2, (.string (bs r.branch)), (.string (bs r.by_)), (.string (bs r.fr.disp)), (.string (bs r.fr.uri.scheme)), (.string (bs r.fr.uri.user)), (.string (bs r.fr.uri.host)), (.int .i64 r.fr.uri.port), u3, u4, u5, (.string (bs r.dst.disp)), (.string (bs r.dst.uri.scheme)), (.string (bs r.dst.uri.user)), (.string (bs r.dst.uri.host)), (.int .i64 r.dst.uri.port), u6, u7, u8, (.string (bs r.fromT)), (.string (bs r.toT)), (.string (bs r.call)), (.int .i64 r.seq), (.int .i64 r.exp), (.string (bs r.evn)), u9, u10, u11, u12, (.string (bs r.typ)), (.string (bs r.mat)), (.string (bs r.body))] ∧ RPrms w u1 r.tgt.ps ∧ RPrms w u2 r.tgt.hs ∧ RPrms w u3 r.fr.uri.ps ∧ RPrms w u4 r.fr.uri.hs ∧ RPrms w u5 r.fr.ps ∧ RPrms w u6 r.dst.uri.ps ∧ RPrms w u7 r.dst.uri.hs ∧ RPrms w u8 r.dst.ps ∧ RPrms w u9 r.evp ∧ RAdrs w u10 r.contact ∧ RStrs w u11 r.routes ∧ RStrs w u12 r.accept
theorem RRqt.below {w w' : World} {B : Nat} {v : Value} {r : Rqt} (h : RRqt w v r) (hB : Below B w w') (hs : w.heap.size ≤ B) : RRqt w' v r := by
 obtain ⟨u1, u2, u3, u4, u5, u6, u7, u8, u9, u10, u11, u12, rfl, h1, h2, h3, h4, h5, h6, h7, h8, h9, h10, h11, h12⟩ := h
 exact ⟨u1, u2, u3, u4, u5, u6, u7, u8, u9, u10, u11, u12, rfl, h1.below hB hs, h2.below hB hs, h3.below hB hs, h4.below hB hs, h5.below hB hs, h6.below hB hs, h7.below hB hs, h8.below hB hs, h9.below hB hs, h10.below hB hs, h11.below hB hs, h12.below hB hs⟩
theorem RRqt.lit {w : World} {v : Value} {r : Rqt} (h : RRqt w v r) : ∃ e1 y1 e2 y2 e3 y3 e4 y4 e5 y5 e6 y6 e7 y7 e8 y8 e9 y9 e10 y10 e11 y11 e12 y12, v = .agg #[(.string (bs r.meth)), (.string (bs r.tgt.scheme)), (.string (bs r.tgt.user)), (.string (bs r.tgt.host)), (.int .i64 r.tgt.port), (.slice e1 r.tgt.ps.length y1), (.slice e2 r.tgt.hs.length y2), (.string (bs r.branch)), (.string (bs r.by_)), (.string (bs r.fr.disp)), (.string (bs r.fr.uri.scheme)), (.string (bs r.fr.uri.user)), (.string (bs r.fr.uri.host)), (.int .i64 r.fr.uri.port), (.slice e3 r.fr.uri.ps.length y3), (.slice e4 r.fr.uri.hs.length y4), (.slice e5 r.fr.ps.length y5), (.string (bs r.dst.disp)), (.string (bs r.dst.uri.scheme)), (.string (bs r.dst.uri.user)), (.string (bs r.dst.uri.host)), (.int .i64 r.dst.uri.port), (.slice e6 r.dst.uri.ps.length y6), (.slice e7 r.dst.uri.hs.length y7), (.slice e8 r.dst.ps.length y8), (.string (bs r.fromT)), (.string (bs r.toT)), (.string (bs r.call)), (.int .i64 r.seq), (.int .i64 r.exp), (.string (bs r.evn)), (.slice e9 r.evp.length y9), (.slice e10 r.contact.length y10), (.slice e11 r.routes.length y11), (.slice e12 r.accept.length y12), (.string (bs r.typ)), (.string (bs r.mat)), (.string (bs r.body))] ∧ RPrms w (.slice e1 r.tgt.ps.length y1) r.tgt.ps ∧ RPrms w (.slice e2 r.tgt.hs.length y2) r.tgt.hs ∧ RPrms w (.slice e3 r.fr.uri.ps.length y3) r.fr.uri.ps ∧ RPrms w (.slice e4 r.fr.uri.hs.length y4) r.fr.uri.hs ∧ RPrms w (.slice e5 r.fr.ps.length y5) r.fr.ps ∧ RPrms w (.slice e6 r.dst.uri.ps.length y6) r.dst.uri.ps ∧ RPrms w (.slice e7 r.dst.uri.hs.length y7) r.dst.uri.hs ∧ RPrms w (.slice e8 r.dst.ps.length y8) r.dst.ps ∧ RPrms w (.slice e9 r.evp.length y9) r.evp ∧ RAdrs w (.slice e10 r.contact.length y10) r.contact ∧ RStrs w (.slice e11 r.routes.length y11) r.routes ∧ RStrs w (.slice e12 r.accept.length y12) r.accept := by
 obtain ⟨u1, u2, u3, u4, u5, u6, u7, u8, u9, u10, u11, u12, rfl, h1, h2, h3, h4, h5, h6, h7, h8, h9, h10, h11, h12⟩ := h
 obtain ⟨e1, y1, rfl, _⟩ := h1.form
 obtain ⟨e2, y2, rfl, _⟩ := h2.form
 obtain ⟨e3, y3, rfl, _⟩ := h3.form
 obtain ⟨e4, y4, rfl, _⟩ := h4.form
 obtain ⟨e5, y5, rfl, _⟩ := h5.form
 obtain ⟨e6, y6, rfl, _⟩ := h6.form
 obtain ⟨e7, y7, rfl, _⟩ := h7.form
 obtain ⟨e8, y8, rfl, _⟩ := h8.form
 obtain ⟨e9, y9, rfl, _⟩ := h9.form
 obtain ⟨e10, y10, rfl, _⟩ := h10.form
 obtain ⟨e11, y11, rfl, _⟩ := h11.form
 obtain ⟨e12, y12, rfl, _⟩ := h12.form
 exact ⟨e1, y1, e2, y2, e3, y3, e4, y4, e5, y5, e6, y6, e7, y7, e8, y8, e9, y9, e10, y10, e11, y11, e12, y12, rfl, h1, h2, h3, h4, h5, h6, h7, h8, h9, h10, h11, h12⟩
theorem RRqt.zero (w : World) : RRqt w (.agg #[(.string ⟨#[]⟩), (.string ⟨#[]⟩), (.string ⟨#[]⟩), (.string ⟨#[]⟩), (.int .i64 0), (.slice none 0 0), (.slice none 0 0), (.string ⟨#[]⟩), (.string ⟨#[]⟩), (.string ⟨#[]⟩), (.string ⟨#[]⟩), (.string ⟨#[]⟩), (.string ⟨#[]⟩), (.int .i64 0), (.slice none 0 0), (.slice none 0 0), (.slice none 0 0), (.string ⟨#[]⟩), (.string ⟨#[]⟩), (.string ⟨#[]⟩), (.string ⟨#[]⟩), (.int .i64 0), (.slice none 0 0), (.slice none 0 0), (.slice none 0 0), (.string ⟨#[]⟩), (.string ⟨#[]⟩), (.string ⟨#[]⟩), (.int .i64 0), (.int .i64 0), (.string ⟨#[]⟩), (.slice none 0 0), (.slice none 0 0), (.slice none 0 0), (.slice none 0 0), (.string ⟨#[]⟩), (.string ⟨#[]⟩), (.string ⟨#[]⟩)]) rq0 :=
 ⟨_, _, _, _, _, _, _, _, _, _, _, _, rfl, .inl ⟨⟨_, _, rfl⟩, rfl⟩, .inl ⟨⟨_, _, rfl⟩, rfl⟩, .inl ⟨⟨_, _, rfl⟩, rfl⟩, .inl ⟨⟨_, _, rfl⟩, rfl⟩, .inl ⟨⟨_, _, rfl⟩, rfl⟩, .inl ⟨⟨_, _, rfl⟩, rfl⟩, .inl ⟨⟨_, _, rfl⟩, rfl⟩, .inl ⟨⟨_, _, rfl⟩, rfl⟩, .inl ⟨⟨_, _, rfl⟩, rfl⟩, .inl ⟨⟨_, _, rfl⟩, rfl⟩, .inl ⟨⟨_, _, rfl⟩, rfl, rfl⟩, .inl ⟨⟨_, _, rfl⟩, rfl, rfl⟩⟩
end Go.Proofs.YtgkilllbkljibaaGreatDoor
