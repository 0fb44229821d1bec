/- Contracts of Go functions, and plain laws. No condition but those told. -/
import Derived.Test.YtipdiddjhimdcaaGreatDoorR15
import Derived.Test.YtipdiddjhimdcaaGreatDoorR09
import Derived.Test.YtipdiddjhimdcaaGreatDoorR05
import Derived.Test.YtipdiddjhimdcaaGreatDoorR13
import Derived.Test.YtipdiddjhimdcaaGreatDoorR14
import Derived.Test.YtipdiddjhimdcaaGreatDoorR04
import Derived.Test.YtipdiddjhimdcaaGreatDoorRows
import Derived.Test.YtipdiddjhimdcaaGreatDoorR01
import Derived.SliceStrings
import Derived.SizedLaws
import Derived.OpenShut
import Derived.ProofKit
import Derived.Lib.SmallJoins
import Derived.Test.YtipdiddjhimdcaaGreatDoorR08
import Derived.Deep.Slices
import Derived.Deep.Fields
import Derived.ChangeSame
set_option linter.unusedSimpArgs false
set_option linter.unusedVariables false
set_option maxRecDepth 100000
namespace Go.Proofs.YtipdiddjhimdcaaGreatDoor
open Go.RowKit
/-! ### The plain laws -/
def PrB (L : List Prm) : Prop := ∀ p ∈ L, p.name.length ≤ 64 ∧ p.value.length ≤ 64
def UrB (u : Uri) : Prop := u.scheme.length ≤ 4 ∧ u.user.length ≤ 64 ∧ u.host.length ≤ 64 ∧ 0 ≤ u.port ∧ u.port ≤ 65535 ∧ PrB u.ps ∧ PrB u.hs
def AdB (a : Adr) : Prop := a.disp.length ≤ 64 ∧ UrB a.uri ∧ PrB a.ps
theorem PrB.nil : PrB [] := fun p hp => by cases hp
theorem UrB.zero : UrB uri0 := ⟨Nat.zero_le _, Nat.zero_le _, Nat.zero_le _, Int.le_refl _, by decide, PrB.nil, PrB.nil⟩
theorem AdB.zero : AdB adr0 := ⟨Nat.zero_le _, UrB.zero, PrB.nil⟩
end Go.Proofs.YtipdiddjhimdcaaGreatDoor
namespace Go.Proofs.YtipdiddjhimdcaaGreatDoor
open Go.ChangeShapes Go.WideShapes Go.ChangeAt Go.RowKit
theorem addr_of_cell {w : World} {a : Addr} {v : Value} (h : w.cell? a = some v) : a = ⟨a.block, a.off, none⟩ ∧ a.block < w.heap.size := by
 obtain ⟨b, o, sp⟩ := a
 cases sp with
 | none =>
  refine ⟨rfl, ?_⟩
  rcases Nat.lt_or_ge b w.heap.size with hlt | hge
  ·exact hlt
  ·simp [World.cell?, Array.getElem?_eq_none hge] at h
 | some x =>
  exfalso
  simp only [World.cell?] at h
  split at h <;> simp at h
theorem add_at (b o i : Nat) : (⟨b, o, none⟩ : Addr).add i = ⟨b, o + i, none⟩ := by unfold Addr.add; split <;> simp_all
theorem bulk_mem {H : Type} : ∀ (l : List (DataW H)) (d : DataW H), d ∈ l → Rows.uptoBulk d ≤ Rows.uptoBulkAll l
 | x :: r, d, h => by
  rw [Rows.uptoBulkAll]
  rcases List.mem_cons.1 h with rfl | h
  ·exact Nat.le_add_right _ _
  ·have := bulk_mem r d h; omega
theorem bulk_len {H : Type} : ∀ (l : List (DataW H)), (∀ d ∈ l, 1 ≤ Rows.uptoBulk d) → l.length ≤ Rows.uptoBulkAll l
 | [], _ => Nat.zero_le _
 | x :: r, h => by
  rw [Rows.uptoBulkAll, List.length_cons]
  have := h x (List.mem_cons_self ..)
  have := bulk_len r (fun d hd => h d (List.mem_cons_of_mem _ hd))
  omega
end Go.Proofs.YtipdiddjhimdcaaGreatDoor
namespace Go.Proofs.YtipdiddjhimdcaaGreatDoor
open Go.ChangeShapes Go.WideShapes Go.ChangeAt Go.RowKit Go.Deep Go.Joins
def rdSH (w : World) (a : Addr) : List UInt8 := match w.cell? a with | some (.string s) => us s | _ => []
def rdH (w : World) (b off i : Nat) : Hdr := ⟨rdSH w ⟨b, off + i * 2, none⟩, rdSH w ⟨b, off + i * 2 + 1, none⟩⟩
section
variable {H : Type} {enc : TypeId × Value → H} {P : Program} {w : World} {base : Nat} {spare : Nat → Bool} {held : Bool}
theorem open_hdrs {t e : TypeId} {fuel : Nat} {v : Value} {x : DataW H × List MemPlace} {f0 f1 : Field} (ht : P.underlying t = some (.slice e)) (he : P.underlying e = some (.struct #[f0, f1]))
  (hone : oneCellFields P #[f0, f1] = true) (hC : P.cellsOf e = 2) (h0 : P.underlying f0.type = some .string) (h1 : P.underlying f1.type = some .string)
  (h : DataW.trod enc P w base spare held fuel t [v] = some x) :
  ∃ L, RHdrs w v L ∧ (∀ p ∈ L, p.name.length + p.value.length + 2 ≤ Rows.uptoBulk x.1) ∧ L.length ≤ Rows.uptoBulk x.1 := by
 rcases open_slice ht h with ⟨hcs, hx⟩ | ⟨a, len, cap, m, n, D, Pl, hcs, hb, hl, hm, hmm, hx, hi⟩
 ·simp only [List.cons.injEq, and_true] at hcs
  subst hcs hx
  exact ⟨[], .inl ⟨⟨_, _, rfl⟩, rfl⟩, ⟨(fun p hp => by simp at hp), Nat.zero_le _⟩⟩
 ·simp only [List.cons.injEq, and_true] at hcs
  subst hcs
  have hlm : len ≤ m := by rw [hmm]; split <;> omega
  have each : ∀ i, i < m → ∃ (s0 s1 : ByteArray), w.cell? (a.add (i * 2)) = some (.string s0) ∧ w.cell? (a.add (i * 2 + 1)) = some (.string s1) ∧
    Rows.uptoBulk (D i) = (s0.size + 1) + ((s1.size + 1) + 0) + 1 := by
   intro i him
   obtain ⟨cs', hc, ht'⟩ := hi i him
   rw [hC] at hc
   obtain ⟨ys, n', hn', hy, hlen, hyl, hf⟩ := DataW.trod_struct he ht'
   obtain ⟨_, hcl, hat⟩ := World.cells?_some hc
   simp only [Prod.mk.injEq] at hy
   have part : ∀ (j : Nat) (f : Field), (#[f0, f1] : Array Field)[j]? = some f → ∃ (v : Value) (y : DataW H × List MemPlace), w.cell? (a.add (i * 2 + j)) = some v ∧ ys[j]? = some y ∧ DataW.trod enc P w base spare held n' f.type [v] = some y := by
    intro j f hj
    obtain ⟨ho, hk⟩ := hone_of hone j f hj
    have hjl : j < 2 := (Array.getElem?_eq_some_iff.1 hj).1
    have hcell := hat j hjl
    have hv : cs'[j]? = some (cs'[j]'(by omega)) := List.getElem?_eq_getElem (by omega)
    have h1 := hf j f hj
    rw [ho, hk] at h1
    have hone' : (cs'.drop j).take 1 = [cs'[j]'(by omega)] := by
     rw [List.drop_eq_getElem_cons (by omega)]; rfl
    rw [hone'] at h1
    have hys : ys[j]? = some (ys[j]'(by rw [hyl]; exact hjl)) := List.getElem?_eq_getElem (by rw [hyl]; exact hjl)
    refine ⟨_, _, ?_, hys, h1.trans hys⟩
    rw [add_add] at hcell
    rw [hcell, hv]
   obtain ⟨v0, y0, c0, e0, t0⟩ := part 0 f0 rfl
   obtain ⟨v1, y1, c1, e1, t1⟩ := part 1 f1 rfl
   obtain ⟨s0, g0, rfl, _⟩ := DataW.trod_string h0 t0
   obtain ⟨s1, g1, rfl, _⟩ := DataW.trod_string h1 t1
   simp only [List.cons.injEq, and_true] at g0 g1
   subst g0 g1
   refine ⟨s0, s1, c0, c1, ?_⟩
   have hys : ys = [(.lit (.string s0.data.toList), []), (.lit (.string s1.data.toList), [])] := by
    match ys, hyl, e0, e1 with
    | [z0, z1], _, e0, e1 =>
     simp at e0 e1
     rw [e0, e1]
   rw [hy.1, hys]
   show Rows.uptoBulk (DataW.agg [.lit (.string s0.data.toList), .lit (.string s1.data.toList)]) = _
   simp only [Rows.uptoBulk, Rows.uptoBulkAll, Array.length_toList]
   rfl
  rw [hx]
  rcases Nat.eq_zero_or_pos len with hz | hz
  ·subst hz
   exact ⟨[], .inl ⟨⟨_, _, rfl⟩, rfl⟩, ⟨(fun p hp => by simp at hp), Nat.zero_le _⟩⟩
  ·obtain ⟨s0, s1, c0, _⟩ := each 0 (by omega)
   rw [Nat.zero_mul, show a.add 0 = a from rfl] at c0
   obtain ⟨ha, hblt⟩ := addr_of_cell c0
   obtain ⟨ab, ao, asp⟩ := a
   simp only [Addr.mk.injEq, true_and] at ha
   subst ha
   have hF : ∀ i, i < len → w.cell? ⟨ab, ao + i * 2, none⟩ = some (sv (rdH w ab ao i).name) ∧ w.cell? ⟨ab, ao + i * 2 + 1, none⟩ = some (sv (rdH w ab ao i).value) ∧
     (rdH w ab ao i).name.length + (rdH w ab ao i).value.length + 3 ≤ Rows.uptoBulk (D i) := by
    intro i hil
    obtain ⟨s0, s1, c0, c1, hbk⟩ := each i (by omega)
    rw [add_at] at c0 c1
    rw [← Nat.add_assoc] at c1
    unfold rdH rdSH sv
    rw [c0, c1, hbk]
    simp only [bs_us, length_us]
    exact ⟨trivial, trivial, by omega⟩
   refine ⟨(List.range len).map (rdH w ab ao), .inr ⟨ab, ao, cap, by rw [List.length_map, List.length_range], by rw [List.length_map, List.length_range]; exact hl, hm, hblt, fun j hj => ?_⟩, ?_, ?_⟩
   ·rw [List.length_map, List.length_range] at hj
    rw [List.getElem_map, List.getElem_range]
    exact ⟨(hF j hj).1, (hF j hj).2.1⟩
   ·intro p hp
    obtain ⟨i, hi', rfl⟩ := List.mem_map.1 hp
    have hil := List.mem_range.1 hi'
    have h3 := (hF i hil).2.2
    have h4 := bulk_mem ((List.range len).map D) (D i) (List.mem_map.2 ⟨i, hi', rfl⟩)
    rw [Rows.uptoBulk]; omega
   ·rw [List.length_map, List.length_range, Rows.uptoBulk]
    have h5 := bulk_len ((List.range len).map D) (fun d hd => by
     obtain ⟨i, hi', rfl⟩ := List.mem_map.1 hd
     have := (hF i (List.mem_range.1 hi')).2.2
     omega)
    rw [List.length_map, List.length_range] at h5
    omega
end
end Go.Proofs.YtipdiddjhimdcaaGreatDoor
