/- Contracts of Go functions, and plain laws. No condition but those told. -/
import Derived.Test.YtipdiddjhimdcaaGreatDoorOpl
set_option linter.unusedSimpArgs false
set_option linter.unusedVariables false
set_option maxRecDepth 100000
namespace Go.Proofs.YtipdiddjhimdcaaGreatDoor
open Go.ChangeShapes Go.WideShapes Go.ChangeAt Go.RowKit Go.Deep Go.Joins
section
variable {H : Type} {enc : TypeId × Value → H} {w : World} {base : Nat} {spare : Nat → Bool} {held : Bool}
theorem open_strsF {t e : TypeId} {P : Program} {fuel : Nat} {v : Value} {z : DataW H × List MemPlace} (ht : P.underlying t = some (.slice e)) (he : P.underlying e = some .string) (hc : P.cellsOf e = 1)
  (hf : DataW.trod enc P w base spare held fuel t [v] = some z) :
  ∃ L, RStrs w v L ∧ (∀ x ∈ L, x.length + 1 ≤ Rows.uptoBulk z.1) ∧ L.length ≤ Rows.uptoBulk z.1 := by
 rcases open_strings ht he hc hf with ⟨hcs, hx⟩ | ⟨a, len, cap, ss, hcs, _, hl, hm, hz, hx, hcell, hws⟩
 ·simp only [List.cons.injEq, and_true] at hcs
  subst hcs
  exact ⟨[], .inl ⟨⟨_, _, rfl⟩, rfl, rfl⟩, ⟨(fun x hx => by simp at hx), Nat.zero_le _⟩⟩
 ·simp only [List.cons.injEq, and_true] at hcs
  subst hcs hx
  dsimp only
  have hlen : len ≤ ss.length := by rw [hz]; split <;> omega
  have hLl : ((ss.take len).map us).length = len := by rw [List.length_map, List.length_take]; omega
  have hbulk : ∀ x ∈ (ss.take len).map us, x.length + 1 ≤ Rows.uptoBulk (DataW.slice (strs (H := H) (ss.take len)) (strs (ss.drop len))) := by
   intro x hx
   obtain ⟨s, hs, rfl⟩ := List.mem_map.1 hx
   have hd : (DataW.lit (.string s.data.toList) : DataW H) ∈ strs (ss.take len) := List.mem_map.2 ⟨s, hs, rfl⟩
   have := bulk_mem _ _ hd
   rw [Rows.uptoBulk] at this
   rw [Rows.uptoBulk]
   show s.data.toList.length + 1 ≤ _
   omega
  refine ⟨(ss.take len).map us, ?_, hbulk, ?_⟩
  ·rcases Nat.eq_zero_or_pos len with h0 | h0
   ·subst h0
    exact .inl ⟨⟨_, _, rfl⟩, by simp, by simp⟩
   ·have hc0 := hcell 0 (by omega)
    rw [show a.add 0 = a from rfl] at hc0
    obtain ⟨ha, hb⟩ := addr_of_cell hc0
    obtain ⟨ab, ao, asp⟩ := a
    simp only [Addr.mk.injEq, true_and] at ha
    subst ha
    refine .inr ⟨ab, ao, cap, by rw [hLl], by rw [hLl]; exact hl, hm, hb, fun j u hj => ?_⟩
    have hj' : j < len := by have := (List.getElem?_eq_some_iff.1 hj).1; rw [List.length_map, hLl] at this; exact this
    have := hcell j (by omega)
    rw [add_at] at this
    rw [this, ← hj, List.getElem?_map, List.getElem?_map, List.getElem?_take_of_lt hj', List.getElem?_eq_getElem (by omega)]
    simp [sv, List.getD_eq_getElem?_getD, List.getElem?_eq_getElem (show j < ss.length by omega)]
  ·rw [hLl]
   have hb := bulk_len (strs (H := H) (ss.take len)) (fun d hd => by
    obtain ⟨s, _, rfl⟩ := List.mem_map.1 hd
    rw [Rows.uptoBulk]; omega)
   have hl2 : (strs (H := H) (ss.take len)).length = len := by unfold strs; rw [List.length_map, List.length_take]; omega
   rw [hl2] at hb
   rw [Rows.uptoBulk]; omega
theorem adr18 {fuel : Nat} {x : DataW H × List MemPlace} {c0 c1 c2 c3 c4 c5 c6 c7 : Value} (h : DataW.trod enc Tryz.prog w base spare held fuel 26 [c0, c1, c2, c3, c4, c5, c6, c7] = some x) :
  ∃ (a : Adr) (u1 u2 u3 : Value), [c0, c1, c2, c3, c4, c5, c6, c7] = [.string (bs a.disp), .string (bs a.uri.scheme), .string (bs a.uri.user), .string (bs a.uri.host), .int .i64 a.uri.port, u1, u2, u3] ∧ RPrms w u1 a.uri.ps ∧ RPrms w u2 a.uri.hs ∧ RPrms w u3 a.ps ∧ AdrBdL (Rows.uptoBulk x.1) a := by
 obtain ⟨D, S, U, T, n, F, G, L, rfl, rfl, rfl, rfl, rfl, hw, hF, hG, hL, bz, bF, bG, bL, lF, lG, lL, _⟩ := open_adrL Tryz.underlying26 (by refine ⟨?_, ?_, ?_, ?_, ?_, ?_⟩ <;> kernel_rfl) Tryz.underlying9 Tryz.underlying22 Tryz.underlying24 (by kernel_rfl) Tryz.underlying9 Tryz.underlying9 Tryz.underlying9 Tryz.underlying3 Tryz.underlying22 Tryz.underlying22 Tryz.underlying85 (by kernel_rfl) (by kernel_rfl) Tryz.underlying9 Tryz.underlying9 Tryz.underlying4 h
 refine ⟨⟨us D, ⟨us S, us U, us T, n, F, G⟩, L⟩, c5, c6, c7, by rw [bs_us, bs_us, bs_us, bs_us], hF, hG, hL, ⟨⟨?_, ?_, ?_, ?_⟩, i64_of_wfA hw, bF, bG, bL, lF, lG, lL⟩⟩
 all_goals
  dsimp only
  rw [length_us]; omega
theorem uri18 {fuel : Nat} {x : DataW H × List MemPlace} {c0 c1 c2 c3 c4 c5 : Value} (h : DataW.trod enc Tryz.prog w base spare held fuel 24 [c0, c1, c2, c3, c4, c5] = some x) :
  ∃ (a : Uri) (u1 u2 : Value), [c0, c1, c2, c3, c4, c5] = [.string (bs a.scheme), .string (bs a.user), .string (bs a.host), .int .i64 a.port, u1, u2] ∧ RPrms w u1 a.ps ∧ RPrms w u2 a.hs ∧ (a.scheme.length ≤ Rows.uptoBulk x.1 ∧ a.user.length ≤ Rows.uptoBulk x.1 ∧ a.host.length ≤ Rows.uptoBulk x.1) ∧ (-9223372036854775808 ≤ a.port ∧ a.port ≤ 9223372036854775807) ∧
   (∀ p ∈ a.ps, p.name.length ≤ Rows.uptoBulk x.1 ∧ p.value.length ≤ Rows.uptoBulk x.1) ∧ (∀ p ∈ a.hs, p.name.length ≤ Rows.uptoBulk x.1 ∧ p.value.length ≤ Rows.uptoBulk x.1) ∧ a.ps.length ≤ Rows.uptoBulk x.1 ∧ a.hs.length ≤ Rows.uptoBulk x.1 := by
 obtain ⟨S, U, T, n, F, G, rfl, rfl, rfl, rfl, hw, hF, hG, bz, bF, bG, lF, lG⟩ := open_uriL Tryz.underlying24 (by kernel_rfl) Tryz.underlying9 Tryz.underlying9 Tryz.underlying9 Tryz.underlying3 Tryz.underlying22 Tryz.underlying22 Tryz.underlying85 (by kernel_rfl) (by kernel_rfl) Tryz.underlying9 Tryz.underlying9 Tryz.underlying4 h
 refine ⟨⟨us S, us U, us T, n, F, G⟩, c4, c5, by rw [bs_us, bs_us, bs_us], hF, hG, ⟨?_, ?_, ?_⟩, i64_of_wfA hw, bF, bG, lF, lG⟩
 all_goals
  dsimp only
  rw [length_us]; omega
theorem strs18 {fuel : Nat} {x : DataW H × List MemPlace} {c : Value} (h : DataW.trod enc Tryz.prog w base spare held fuel 30 [c] = some x) : ∃ L, RStrs w c L ∧ (∀ y ∈ L, y.length ≤ Rows.uptoBulk x.1) ∧ L.length ≤ Rows.uptoBulk x.1 := by
 obtain ⟨L, h1, h2, h3⟩ := open_strsF Tryz.underlying30 Tryz.underlying9 (by kernel_rfl) h
 exact ⟨L, h1, fun y hy => by have := h2 y hy; omega, h3⟩
theorem list_more {α : Type} {l : List α} {n : Nat} (h : l.length = n + 1) : ∃ a t, l = a :: t ∧ t.length = n := by
 cases l with
 | nil => cases h
 | cons a t => exact ⟨a, t, rfl, by simpa using h⟩
def DlgBd (B : Nat) (d : Dlg) : Prop := AdrBdL B d.loc ∧ AdrBdL B d.rem ∧ d.tgt.host.length ≤ B ∧ (-9223372036854775808 ≤ d.tgt.port ∧ d.tgt.port ≤ 9223372036854775807) ∧ (∀ x ∈ d.routes, x.length ≤ B) ∧ d.routes.length ≤ B ∧ (-9223372036854775808 ≤ d.lin ∧ d.lin ≤ 9223372036854775807) ∧ (-9223372036854775808 ≤ d.lout ∧ d.lout ≤ 9223372036854775807)
def RqBd (B : Nat) (r : Rq) : Prop := AdrBdL B r.fr ∧ AdrBdL B r.dst ∧ (∀ a ∈ r.contact, AdrBdL B a) ∧ (∀ x ∈ r.routes, x.length ≤ B) ∧ r.routes.length ≤ B ∧ r.toT.length ≤ B ∧ r.fromT.length ≤ B ∧ r.call.length ≤ B
theorem DlgBd.mono {B B' : Nat} {d : Dlg} (h : DlgBd B d) (hB : B ≤ B') : DlgBd B' d := by
 obtain ⟨h1, h2, h3, h4, h5, h6, h7, h8⟩ := h
 exact ⟨h1.mono hB, h2.mono hB, by omega, h4, fun x hx => by have := h5 x hx; omega, by omega, h7, h8⟩
theorem RqBd.mono {B B' : Nat} {r : Rq} (h : RqBd B r) (hB : B ≤ B') : RqBd B' r := by
 obtain ⟨h1, h2, h3, h4, h5, h6, h7, h8⟩ := h
 exact ⟨h1.mono hB, h2.mono hB, fun a ha => (h3 a ha).mono hB, fun x hx => by have := h4 x hx; omega, by omega, by omega, by omega, by omega⟩
theorem array26 {α : Type} {cs : Array α} (h : cs.size = 26) : ∃ c0 c1 c2 c3 c4 c5 c6 c7 c8 c9 c10 c11 c12 c13 c14 c15 c16 c17 c18 c19 c20 c21 c22 c23 c24 c25, cs = #[c0, c1, c2, c3, c4, c5, c6, c7, c8, c9, c10, c11, c12, c13, c14, c15, c16, c17, c18, c19, c20, c21, c22, c23, c24, c25] := by
 obtain ⟨l⟩ := cs
 replace h : l.length = 26 := h
 obtain ⟨c0, l1, rfl, h1⟩ := list_more h
 obtain ⟨c1, l2, rfl, h2⟩ := list_more h1
 obtain ⟨c2, l3, rfl, h3⟩ := list_more h2
 obtain ⟨c3, l4, rfl, h4⟩ := list_more h3
 obtain ⟨c4, l5, rfl, h5⟩ := list_more h4
 obtain ⟨c5, l6, rfl, h6⟩ := list_more h5
 obtain ⟨c6, l7, rfl, h7⟩ := list_more h6
 obtain ⟨c7, l8, rfl, h8⟩ := list_more h7
 obtain ⟨c8, l9, rfl, h9⟩ := list_more h8
 obtain ⟨c9, l10, rfl, h10⟩ := list_more h9
 obtain ⟨c10, l11, rfl, h11⟩ := list_more h10
 obtain ⟨c11, l12, rfl, h12⟩ := list_more h11
 obtain ⟨c12, l13, rfl, h13⟩ := list_more h12
 obtain ⟨c13, l14, rfl, h14⟩ := list_more h13
 obtain ⟨c14, l15, rfl, h15⟩ := list_more h14
 obtain ⟨c15, l16, rfl, h16⟩ := list_more h15
 obtain ⟨c16, l17, rfl, h17⟩ := list_more h16
 obtain ⟨c17, l18, rfl, h18⟩ := list_more h17
 obtain ⟨c18, l19, rfl, h19⟩ := list_more h18
 obtain ⟨c19, l20, rfl, h20⟩ := list_more h19
 obtain ⟨c20, l21, rfl, h21⟩ := list_more h20
 obtain ⟨c21, l22, rfl, h22⟩ := list_more h21
 obtain ⟨c22, l23, rfl, h23⟩ := list_more h22
 obtain ⟨c23, l24, rfl, h24⟩ := list_more h23
 obtain ⟨c24, l25, rfl, h25⟩ := list_more h24
 obtain ⟨c25, l26, rfl, h26⟩ := list_more h25
 obtain rfl := List.length_eq_zero_iff.1 h26
 exact ⟨c0, c1, c2, c3, c4, c5, c6, c7, c8, c9, c10, c11, c12, c13, c14, c15, c16, c17, c18, c19, c20, c21, c22, c23, c24, c25, rfl⟩
end
end Go.Proofs.YtipdiddjhimdcaaGreatDoor
