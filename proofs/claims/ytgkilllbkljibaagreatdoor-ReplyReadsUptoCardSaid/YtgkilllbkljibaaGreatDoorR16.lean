/- Contracts of Go functions, and plain laws. No condition but those told. -/
import Derived.Test.YtgkilllbkljibaaGreatDoorR15
import Derived.Test.YtgkilllbkljibaaGreatDoorR09
import Derived.Test.YtgkilllbkljibaaGreatDoorR05
import Derived.Test.YtgkilllbkljibaaGreatDoorR13
import Derived.Test.YtgkilllbkljibaaGreatDoorR14
import Derived.Test.YtgkilllbkljibaaGreatDoorR04
import Derived.Test.YtgkilllbkljibaaGreatDoorRows
import Derived.Test.YtgkilllbkljibaaGreatDoorR01
import Derived.SliceStrings
import Derived.SizedLaws
import Derived.OpenShut
import Derived.ProofKit
import Derived.Lib.SmallJoins
import Derived.Test.YtgkilllbkljibaaGreatDoorR08
import Derived.Deep.Slices
import Derived.Deep.Fields
import Derived.ChangeSame
set_option linter.unusedSimpArgs false
set_option linter.unusedVariables false
set_option maxRecDepth 100000
namespace Go.Proofs.YtgkilllbkljibaaGreatDoor
open Go.RowKit
def sizeR (z : Int) (n : Int) : Int := if 0 ≤ z then z else n
theorem sizeR_no {z n : Int} (h : z < 0) : sizeR z n = n := by unfold sizeR; rw [if_neg (by omega)]
theorem sizeR_yes {z n : Int} (h : 0 ≤ z) : sizeR z n = z := by unfold sizeR; rw [if_pos h]
theorem end_bad (m : Mg) (rest : List UInt8) (H : List Hdr) (z : Int) (h : (rest.length : Int) < sizeR z rest.length) : endS m rest ((H, z), 0) = (mg0, 62) := by
 unfold endS; rw [if_neg (fun h => h rfl), if_pos]
 unfold sizeR at h; split at h
 ·exact h
 ·omega
theorem end_ok (m : Mg) (rest : List UInt8) (H : List Hdr) (z : Int) (h : ¬ (rest.length : Int) < sizeR z rest.length) : endS m rest ((H, z), 0) = ({ m with hdrs := H, body := rest.take (sizeR z rest.length).toNat }, 0) := by
 unfold endS; rw [if_neg (fun h => h rfl)]
 unfold sizeR at h ⊢
 unfold bodyS
 by_cases hz : 0 ≤ z
 ·rw [if_pos hz] at h ⊢
  rw [if_neg h, if_pos hz]
 ·rw [if_neg hz, if_neg (by dsimp only; omega), if_neg hz]
  congr 1
  simp
theorem lines_end' (ts : List (List UInt8)) (H : List Hdr) (z : Int) (i : Nat) (h : ts.length ≤ i) (hp : linesS [] (-1) ts = linesS H z (ts.drop i)) : linesS [] (-1) ts = ((H, z), 0) := by
 rw [hp, List.drop_eq_nil_iff.2 h, linesS]
structure Rqt where
 meth : List UInt8
 tgt : Uri
 branch : List UInt8
 by_ : List UInt8
 fr : Adr
 dst : Adr
 fromT : List UInt8
 toT : List UInt8
 call : List UInt8
 seq : Int
 exp : Int
 evn : List UInt8
 evp : List Prm
 contact : List Adr
 routes : List (List UInt8)
 accept : List (List UInt8)
 typ : List UInt8
 mat : List UInt8
 body : List UInt8
deriving DecidableEq
def rq0 : Rqt := ⟨[], uri0, [], [], adr0, adr0, [], [], [], 0, 0, [], [], [], [], [], [], [], []⟩
def nCall : List UInt8 := [67, 97, 108, 108, 45, 73, 68]
def nCseq : List UInt8 := [67, 83, 101, 113]
def nExp : List UInt8 := [69, 120, 112, 105, 114, 101, 115]
def nType : List UInt8 := [67, 111, 110, 116, 101, 110, 116, 45, 84, 121, 112, 101]
def nMatch : List UInt8 := [83, 73, 80, 45, 73, 102, 45, 77, 97, 116, 99, 104]
def nAccept : List UInt8 := [65, 99, 99, 101, 112, 116]
def nRecR : List UInt8 := [82, 101, 99, 111, 114, 100, 45, 82, 111, 117, 116, 101]
def adrOf (H : List Hdr) (n : List UInt8) : Adr × Int := if (oneS H n).2 = false then (adr0, 100) else parseA (oneS H n).1
def must3 (m : Mg) (h : Hop) (f t : Adr) : Rqt × Int :=
 if (oneS m.hdrs nCall).2 = false ∨ (oneS m.hdrs nCseq).2 = false ∨ callS (oneS m.hdrs nCall).1 = false then (rq0, 100)
 else if (seqP (oneS m.hdrs nCseq).1).2.2 ≠ 0 ∨ (seqP (oneS m.hdrs nCseq).1).2.1 ≠ m.method then (rq0, 80)
 else (⟨m.method, uri0, (branchV h).1, byV h, f, t, tagA f, tagA t, (oneS m.hdrs nCall).1, (seqP (oneS m.hdrs nCseq).1).1, -1, [], [], [], [], [], [], [], m.body⟩, 0)
def must2 (m : Mg) (h : Hop) : Rqt × Int :=
 if (adrOf m.hdrs nFrom).2 ≠ 0 then (rq0, (adrOf m.hdrs nFrom).2)
 else if (adrOf m.hdrs nTo).2 ≠ 0 then (rq0, (adrOf m.hdrs nTo).2)
 else must3 m h (adrOf m.hdrs nFrom).1 (adrOf m.hdrs nTo).1
def mustS (m : Mg) : Rqt × Int :=
 if m.method = [] then (rq0, 1)
 else if (listV (allS m.hdrs nVia)).2 ≠ 0 then (rq0, (listV (allS m.hdrs nVia)).2)
 else if (branchV ((listV (allS m.hdrs nVia)).1.headD hop0)).2 = false then (rq0, 70)
 else must2 m ((listV (allS m.hdrs nVia)).1.headD hop0)
def one1 (H : List Hdr) (n : List UInt8) (e : Int) (f : List UInt8 → Int) : Int :=
 if e ≠ 0 then e else match allS H n with | [] => 0 | [x] => f x | _ => 4
def got {α : Type} (H : List Hdr) (n : List UInt8) (d : α) (f : List UInt8 → α) : α := match allS H n with | [x] => f x | _ => d
def piecesS (H : List Hdr) (n : List UInt8) : List (List UInt8) := (allS H n).flatMap fun v => (parts v 44).map trim
def firstE : List (List UInt8) → Int
 | [] => 0
 | x :: r => if (parseA x).2 ≠ 0 then (parseA x).2 else firstE r
def err0 (m : Mg) (r : Rqt) : Int := if (parseU m.target).2 ≠ 0 then (parseU m.target).2 else if r.fromT = [] then 100 else 0
def err1 (m : Mg) (r : Rqt) : Int := one1 m.hdrs nExp (err0 m r) (fun s => (timeS s).2)
def err2 (m : Mg) (r : Rqt) : Int := one1 m.hdrs nEvent (err1 m r) (fun s => (evS s).2)
def err3 (m : Mg) (r : Rqt) : Int := one1 m.hdrs nContact (err2 m r) (fun s => (listA s).2)
def err4 (m : Mg) (r : Rqt) : Int := one1 m.hdrs nType (err3 m r) (fun _ => 0)
def err5 (m : Mg) (r : Rqt) : Int := one1 m.hdrs nMatch (err4 m r) (fun s => if token s = true then 0 else 160)
def fullS (m : Mg) (r : Rqt) : Rqt :=
 { r with tgt := (parseU m.target).1, exp := got m.hdrs nExp (-1) (fun s => (timeS s).1), evn := got m.hdrs nEvent [] (fun s => (evS s).1.1), evp := got m.hdrs nEvent [] (fun s => (evS s).1.2), contact := got m.hdrs nContact [] (fun s => (listA s).1), typ := got m.hdrs nType [] typeOf, mat := got m.hdrs nMatch [] id, routes := piecesS m.hdrs nRecR, accept := piecesS m.hdrs nAccept }
def read2 (m : Mg) (r : Rqt) : Rqt × Int :=
 if err5 m r ≠ 0 then (rq0, err5 m r)
 else if firstE (piecesS m.hdrs nRecR) ≠ 0 then (rq0, firstE (piecesS m.hdrs nRecR))
 else if 16 < (piecesS m.hdrs nRecR).length ∨ 16 < (piecesS m.hdrs nAccept).length then (rq0, 4)
 else (fullS m r, 0)
def readS (m : Mg) : Rqt × Int := if (mustS m).2 ≠ 0 then (rq0, (mustS m).2) else read2 m (mustS m).1
/-! ### The plain laws -/
theorem must_err (m : Mg) (h : (mustS m).2 ≠ 0) : (mustS m).1 = rq0 := by
 revert h
 unfold mustS must2 must3
 repeat' split
 all_goals first | (intro; rfl) | (intro h; exact absurd rfl h)
theorem textGo_bdR : ∀ (L done : List Prm) (s : List UInt8), textGo done L = some s → ∀ p ∈ L, p.name.length ≤ 64 ∧ p.value.length ≤ 64
 | [], _, _, _, p, hp => by cases hp
 | q :: r, done, s, h, p, hp => by
  rw [textGo] at h
  split at h
  ·rename_i hm
   cases hq : textGo (done ++ [q]) r with
   | none => rw [hq] at h; cases h
   | some t =>
    rcases List.mem_cons.1 hp with rfl | hp
    ·exact mayS_len hm
    ·exact textGo_bdR r _ t hq p hp
  ·cases h
theorem hop_bdR (v : Hop) (h : checkV v = 0) : v.host.length ≤ 64 ∧ 0 ≤ v.port ∧ v.port ≤ 65535 ∧ ∀ p ∈ v.ps, p.name.length ≤ 64 ∧ p.value.length ≤ 64 := by
 obtain ⟨h1, h2, h3, h4⟩ := check_parts v h
 exact ⟨(host_low _ h1).2.2, h2, h3, textGo_bdR _ _ _ (textS_ok v.ps h4).2⟩
theorem hops_bdR : ∀ (xs : List (List UInt8)) (L : List Hop), (∀ v ∈ L, checkV v = 0) → ∀ v ∈ (hopsGo L xs).1, checkV v = 0
 | [], L, h => h
 | x :: r, L, h => by
  rw [hopsGo]
  split
  ·intro v hv; cases hv
  split
  ·intro v hv; cases hv
  rename_i h1 _
  refine hops_bdR r _ fun v hv => ?_
  rcases List.mem_append.1 hv with hv | hv
  ·exact h v hv
  ·rw [List.mem_singleton.1 hv]
   refine (parseV_ok x).1 ?_
   by_cases h0 : (parseV x).2 = 0
   ·exact h0
   ·exact absurd h0 h1
theorem listV_bdR (vals : List (List UInt8)) (h : (listV vals).2 = 0) : ∃ v r, (listV vals).1 = v :: r ∧ checkV v = 0 := by
 have hb := hops_bdR (vals.flatMap fun v => parts v 44) [] (fun v hv => by cases hv)
 unfold listV at h ⊢
 split
 ·rename_i h1; rw [if_pos h1] at h; exact absurd h h1
 rename_i h1
 split
 ·rename_i h2; rw [if_neg h1, if_pos h2] at h; cases h
 rename_i h2
 revert hb h2
 generalize (hopsGo [] (vals.flatMap fun v => parts v 44)).1 = L
 intro hb h2
 cases L with
 | nil => exact absurd rfl h2
 | cons v r => exact ⟨v, r, rfl, hb v (List.mem_cons_self ..)⟩
def PrB (L : List Prm) : Prop := ∀ p ∈ L, p.name.length ≤ 64 ∧ p.value.length ≤ 64
def UrB (u : Uri) : Prop := u.scheme.length ≤ 4 ∧ u.user.length ≤ 64 ∧ u.host.length ≤ 64 ∧ 0 ≤ u.port ∧ u.port ≤ 65535 ∧ PrB u.ps ∧ PrB u.hs
def AdB (a : Adr) : Prop := a.disp.length ≤ 64 ∧ UrB a.uri ∧ PrB a.ps
theorem PrB.nil : PrB [] := fun p hp => by cases hp
theorem UrB.zero : UrB uri0 := ⟨Nat.zero_le _, Nat.zero_le _, Nat.zero_le _, Int.le_refl _, by decide, PrB.nil, PrB.nil⟩
theorem AdB.zero : AdB adr0 := ⟨Nat.zero_le _, UrB.zero, PrB.nil⟩
theorem uri_bdR (u : Uri) (h : checkU u = 0) : UrB u := by
 obtain ⟨c1, c2, c3, c4, c5, c6, c7, _⟩ := checkU_parts _ h
 exact ⟨(scheme_facts _ c1).2.2.1, c2, (host_low _ c3).2.2, c4, c5, fun p hp => ⟨((listU_ok c6).2 p hp).2.1, ((listU_ok c6).2 p hp).2.2.1⟩, fun p hp => ⟨((listU_ok c7).2 p hp).2.1, ((listU_ok c7).2 p hp).2.2.1⟩⟩
theorem adr_bdR (a : Adr) (h : checkA a = 0) : AdB a := by
 obtain ⟨_, h2, h3, h4⟩ := checkA_parts _ h
 exact ⟨h2, uri_bdR _ h3, textGo_bdR _ _ _ (textS_ok a.ps h4).2⟩
theorem parseA_bdR (l : List UInt8) : AdB (parseA l).1 := by
 by_cases h : (parseA l).2 = 0
 ·exact adr_bdR _ ((parseA_ok l).1 h)
 ·rw [(parseA_ok l).2 h]; exact AdB.zero
end Go.Proofs.YtgkilllbkljibaaGreatDoor
namespace Go.Proofs.YtgkilllbkljibaaGreatDoor
open Go.ChangeShapes Go.WideShapes Go.ChangeAt Go.RowKit
theorem addr_of_cell {w : World} {a : Addr} {v : Value} (h : w.cell? a = some v) : a = ⟨a.block, a.off, none⟩ ∧ a.block < w.heap.size := by
 obtain ⟨b, o, sp⟩ := a
 cases sp with
 | none =>
  refine ⟨rfl, ?_⟩
  rcases Nat.lt_or_ge b w.heap.size with hlt | hge
  ·exact hlt
  ·simp [World.cell?, Array.getElem?_eq_none hge] at h
 | some x =>
  exfalso
  simp only [World.cell?] at h
  split at h <;> simp at h
theorem add_at (b o i : Nat) : (⟨b, o, none⟩ : Addr).add i = ⟨b, o + i, none⟩ := by unfold Addr.add; split <;> simp_all
theorem bulk_mem {H : Type} : ∀ (l : List (DataW H)) (d : DataW H), d ∈ l → Rows.uptoBulk d ≤ Rows.uptoBulkAll l
 | x :: r, d, h => by
  rw [Rows.uptoBulkAll]
  rcases List.mem_cons.1 h with rfl | h
  ·exact Nat.le_add_right _ _
  ·have := bulk_mem r d h; omega
theorem bulk_len {H : Type} : ∀ (l : List (DataW H)), (∀ d ∈ l, 1 ≤ Rows.uptoBulk d) → l.length ≤ Rows.uptoBulkAll l
 | [], _ => Nat.zero_le _
 | x :: r, h => by
  rw [Rows.uptoBulkAll, List.length_cons]
  have := h x (List.mem_cons_self ..)
  have := bulk_len r (fun d hd => h d (List.mem_cons_of_mem _ hd))
  omega
end Go.Proofs.YtgkilllbkljibaaGreatDoor
namespace Go.Proofs.YtgkilllbkljibaaGreatDoor
open Go.ChangeShapes Go.WideShapes Go.ChangeAt Go.RowKit Go.Deep Go.Joins
def rdSH (w : World) (a : Addr) : List UInt8 := match w.cell? a with | some (.string s) => us s | _ => []
def rdH (w : World) (b off i : Nat) : Hdr := ⟨rdSH w ⟨b, off + i * 2, none⟩, rdSH w ⟨b, off + i * 2 + 1, none⟩⟩
theorem array6 {α : Type} {cs : Array α} (h : cs.size = 6) : ∃ c0 c1 c2 c3 c4 c5, cs = #[c0, c1, c2, c3, c4, c5] := by
 obtain ⟨l⟩ := cs
 match l, h with
 | [c0, c1, c2, c3, c4, c5], _ => exact ⟨c0, c1, c2, c3, c4, c5, rfl⟩
section
variable {H : Type} {enc : TypeId × Value → H} {P : Program} {w : World} {base : Nat} {spare : Nat → Bool} {held : Bool}
theorem open_hdrs {t e : TypeId} {fuel : Nat} {v : Value} {x : DataW H × List MemPlace} {f0 f1 : Field} (ht : P.underlying t = some (.slice e)) (he : P.underlying e = some (.struct #[f0, f1]))
  (hone : oneCellFields P #[f0, f1] = true) (hC : P.cellsOf e = 2) (h0 : P.underlying f0.type = some .string) (h1 : P.underlying f1.type = some .string)
  (h : DataW.trod enc P w base spare held fuel t [v] = some x) :
  ∃ L, RHdrs w v L ∧ (∀ p ∈ L, p.name.length + p.value.length + 2 ≤ Rows.uptoBulk x.1) ∧ L.length ≤ Rows.uptoBulk x.1 := by
 rcases open_slice ht h with ⟨hcs, hx⟩ | ⟨a, len, cap, m, n, D, Pl, hcs, hb, hl, hm, hmm, hx, hi⟩
 ·simp only [List.cons.injEq, and_true] at hcs
  subst hcs hx
  exact ⟨[], .inl ⟨⟨_, _, rfl⟩, rfl⟩, ⟨(fun p hp => by simp at hp), Nat.zero_le _⟩⟩
 ·simp only [List.cons.injEq, and_true] at hcs
  subst hcs
  have hlm : len ≤ m := by rw [hmm]; split <;> omega
  have each : ∀ i, i < m → ∃ (s0 s1 : ByteArray), w.cell? (a.add (i * 2)) = some (.string s0) ∧ w.cell? (a.add (i * 2 + 1)) = some (.string s1) ∧
    Rows.uptoBulk (D i) = (s0.size + 1) + ((s1.size + 1) + 0) + 1 := by
   intro i him
   obtain ⟨cs', hc, ht'⟩ := hi i him
   rw [hC] at hc
   obtain ⟨ys, n', hn', hy, hlen, hyl, hf⟩ := DataW.trod_struct he ht'
   obtain ⟨_, hcl, hat⟩ := World.cells?_some hc
   simp only [Prod.mk.injEq] at hy
   have part : ∀ (j : Nat) (f : Field), (#[f0, f1] : Array Field)[j]? = some f → ∃ (v : Value) (y : DataW H × List MemPlace), w.cell? (a.add (i * 2 + j)) = some v ∧ ys[j]? = some y ∧ DataW.trod enc P w base spare held n' f.type [v] = some y := by
    intro j f hj
    obtain ⟨ho, hk⟩ := hone_of hone j f hj
    have hjl : j < 2 := (Array.getElem?_eq_some_iff.1 hj).1
    have hcell := hat j hjl
    have hv : cs'[j]? = some (cs'[j]'(by omega)) := List.getElem?_eq_getElem (by omega)
    have h1 := hf j f hj
    rw [ho, hk] at h1
    have hone' : (cs'.drop j).take 1 = [cs'[j]'(by omega)] := by
     rw [List.drop_eq_getElem_cons (by omega)]; rfl
    rw [hone'] at h1
    have hys : ys[j]? = some (ys[j]'(by rw [hyl]; exact hjl)) := List.getElem?_eq_getElem (by rw [hyl]; exact hjl)
    refine ⟨_, _, ?_, hys, h1.trans hys⟩
    rw [add_add] at hcell
    rw [hcell, hv]
   obtain ⟨v0, y0, c0, e0, t0⟩ := part 0 f0 rfl
   obtain ⟨v1, y1, c1, e1, t1⟩ := part 1 f1 rfl
   obtain ⟨s0, g0, rfl, _⟩ := DataW.trod_string h0 t0
   obtain ⟨s1, g1, rfl, _⟩ := DataW.trod_string h1 t1
   simp only [List.cons.injEq, and_true] at g0 g1
   subst g0 g1
   refine ⟨s0, s1, c0, c1, ?_⟩
   have hys : ys = [(.lit (.string s0.data.toList), []), (.lit (.string s1.data.toList), [])] := by
    match ys, hyl, e0, e1 with
    | [z0, z1], _, e0, e1 =>
     simp at e0 e1
     rw [e0, e1]
   rw [hy.1, hys]
   show Rows.uptoBulk (DataW.agg [.lit (.string s0.data.toList), .lit (.string s1.data.toList)]) = _
   simp only [Rows.uptoBulk, Rows.uptoBulkAll, Array.length_toList]
   rfl
  rw [hx]
  rcases Nat.eq_zero_or_pos len with hz | hz
  ·subst hz
   exact ⟨[], .inl ⟨⟨_, _, rfl⟩, rfl⟩, ⟨(fun p hp => by simp at hp), Nat.zero_le _⟩⟩
  ·obtain ⟨s0, s1, c0, _⟩ := each 0 (by omega)
   rw [Nat.zero_mul, show a.add 0 = a from rfl] at c0
   obtain ⟨ha, hblt⟩ := addr_of_cell c0
   obtain ⟨ab, ao, asp⟩ := a
   simp only [Addr.mk.injEq, true_and] at ha
   subst ha
   have hF : ∀ i, i < len → w.cell? ⟨ab, ao + i * 2, none⟩ = some (sv (rdH w ab ao i).name) ∧ w.cell? ⟨ab, ao + i * 2 + 1, none⟩ = some (sv (rdH w ab ao i).value) ∧
     (rdH w ab ao i).name.length + (rdH w ab ao i).value.length + 3 ≤ Rows.uptoBulk (D i) := by
    intro i hil
    obtain ⟨s0, s1, c0, c1, hbk⟩ := each i (by omega)
    rw [add_at] at c0 c1
    rw [← Nat.add_assoc] at c1
    unfold rdH rdSH sv
    rw [c0, c1, hbk]
    simp only [bs_us, length_us]
    exact ⟨trivial, trivial, by omega⟩
   refine ⟨(List.range len).map (rdH w ab ao), .inr ⟨ab, ao, cap, by rw [List.length_map, List.length_range], by rw [List.length_map, List.length_range]; exact hl, hm, hblt, fun j hj => ?_⟩, ?_, ?_⟩
   ·rw [List.length_map, List.length_range] at hj
    rw [List.getElem_map, List.getElem_range]
    exact ⟨(hF j hj).1, (hF j hj).2.1⟩
   ·intro p hp
    obtain ⟨i, hi', rfl⟩ := List.mem_map.1 hp
    have hil := List.mem_range.1 hi'
    have h3 := (hF i hil).2.2
    have h4 := bulk_mem ((List.range len).map D) (D i) (List.mem_map.2 ⟨i, hi', rfl⟩)
    rw [Rows.uptoBulk]; omega
   ·rw [List.length_map, List.length_range, Rows.uptoBulk]
    have h5 := bulk_len ((List.range len).map D) (fun d hd => by
     obtain ⟨i, hi', rfl⟩ := List.mem_map.1 hd
     have := (hF i (List.mem_range.1 hi')).2.2
     omega)
    rw [List.length_map, List.length_range] at h5
    omega
theorem open_agg6 {r : Reach} {b0 : Nat} {t : TypeId} {f0 f1 f2 f3 f4 f5 : Field} {v : Value} {d : DataW H} {p : List MemPlace} (hs : P.underlying t = some (.struct #[f0, f1, f2, f3, f4, f5])) (hone : oneCellFields P #[f0, f1, f2, f3, f4, f5] = true) (hC : P.cellsOf t = 6)
  (hv : Value.okWide P w r b0 t v) (h : DataW.Trod enc P w base spare held t v d p) :
  ∃ (v0 v1 v2 v3 v4 v5 : Value) (y0 y1 y2 y3 y4 y5 : DataW H × List MemPlace) (n : Nat), v = .agg #[v0, v1, v2, v3, v4, v5] ∧ d = .agg [y0.1, y1.1, y2.1, y3.1, y4.1, y5.1] ∧
   DataW.trod enc P w base spare held n f0.type [v0] = some y0 ∧ DataW.trod enc P w base spare held n f1.type [v1] = some y1 ∧ DataW.trod enc P w base spare held n f2.type [v2] = some y2 ∧ DataW.trod enc P w base spare held n f3.type [v3] = some y3 ∧
   DataW.trod enc P w base spare held n f4.type [v4] = some y4 ∧ DataW.trod enc P w base spare held n f5.type [v5] = some y5 := by
 obtain ⟨cs, rfl, hsz⟩ := okWide_struct hs hv
 obtain ⟨c0, c1, c2, c3, c4, c5, rfl⟩ := array6 (hsz.trans hC)
 obtain ⟨fuel, hf⟩ := h
 obtain ⟨xs, n, _, hx, hl, hlen, hf⟩ := DataW.trod_struct hs hf
 obtain ⟨o0, k0⟩ := hone_of hone 0 f0 rfl
 obtain ⟨o1, k1⟩ := hone_of hone 1 f1 rfl
 obtain ⟨o2, k2⟩ := hone_of hone 2 f2 rfl
 obtain ⟨o3, k3⟩ := hone_of hone 3 f3 rfl
 obtain ⟨o4, k4⟩ := hone_of hone 4 f4 rfl
 obtain ⟨o5, k5⟩ := hone_of hone 5 f5 rfl
 have g0 := hf 0 f0 rfl
 have g1 := hf 1 f1 rfl
 have g2 := hf 2 f2 rfl
 have g3 := hf 3 f3 rfl
 have g4 := hf 4 f4 rfl
 have g5 := hf 5 f5 rfl
 clear hf hone
 match xs, hlen with
 | [y0, y1, y2, y3, y4, y5], _ =>
  simp only [Prod.mk.injEq] at hx
  exact ⟨c0, c1, c2, c3, c4, c5, y0, y1, y2, y3, y4, y5, n, rfl, hx.1, by simpa [Value.cells, o0, k0] using g0, by simpa [Value.cells, o1, k1] using g1, by simpa [Value.cells, o2, k2] using g2, by simpa [Value.cells, o3, k3] using g3, by simpa [Value.cells, o4, k4] using g4, by simpa [Value.cells, o5, k5] using g5⟩
theorem open_msg {t : TypeId} {f0 f1 f2 f3 f4 f5 : Field} {v : Value} {d : DataW H} {p : List MemPlace} {r : Reach} {b0 : Nat} {e : TypeId} {g0 g1 : Field} (hs : P.underlying t = some (.struct #[f0, f1, f2, f3, f4, f5])) (hone : oneCellFields P #[f0, f1, f2, f3, f4, f5] = true) (hC : P.cellsOf t = 6)
  (h0 : P.underlying f0.type = some .string) (h1 : P.underlying f1.type = some .string) (h2 : P.underlying f2.type = some (.int .i64)) (h3 : P.underlying f3.type = some .string) (h4 : P.underlying f4.type = some (.slice e)) (h5 : P.underlying f5.type = some .string)
  (he : P.underlying e = some (.struct #[g0, g1])) (hone' : oneCellFields P #[g0, g1] = true) (hC' : P.cellsOf e = 2) (k0 : P.underlying g0.type = some .string) (k1 : P.underlying g1.type = some .string)
  (hv : Value.okWide P w r b0 t v) (h : DataW.Trod enc P w base spare held t v d p) :
  ∃ (M T : ByteArray) (x : Int) (R : ByteArray) (u : Value) (B : ByteArray) (F : List Hdr), v = .agg #[.string M, .string T, .int .i64 x, .string R, u, .string B] ∧ (Lit.int .i64 x).wf = true ∧ RHdrs w u F ∧
   M.size + T.size + R.size + B.size ≤ Rows.uptoBulk d ∧ (∀ p ∈ F, p.name.length ≤ Rows.uptoBulk d ∧ p.value.length ≤ Rows.uptoBulk d) ∧ F.length ≤ Rows.uptoBulk d := by
 obtain ⟨v0, v1, v2, v3, v4, v5, y0, y1, y2, y3, y4, y5, n, rfl, rfl, q0, q1, q2, q3, q4, q5⟩ := open_agg6 hs hone hC hv h
 obtain ⟨M, e0, rfl, _⟩ := DataW.trod_string h0 q0
 obtain ⟨T, e1, rfl, _⟩ := DataW.trod_string h1 q1
 obtain ⟨x, e2, rfl, hw⟩ := DataW.trod_int h2 q2
 obtain ⟨R, e3, rfl, _⟩ := DataW.trod_string h3 q3
 obtain ⟨F, hF, hb, hn⟩ := open_hdrs h4 he hone' hC' k0 k1 q4
 obtain ⟨B, e5, rfl, _⟩ := DataW.trod_string h5 q5
 simp only [List.cons.injEq, and_true] at e0 e1 e2 e3 e5
 subst e0 e1 e2 e3 e5
 have hd : Rows.uptoBulk (DataW.agg [(.lit (.string M.data.toList) : DataW H), .lit (.string T.data.toList), .lit (.int .i64 x), .lit (.string R.data.toList), y4.1, .lit (.string B.data.toList)]) =
   (M.size + 1) + ((T.size + 1) + (1 + ((R.size + 1) + (Rows.uptoBulk y4.1 + ((B.size + 1) + 0))))) + 1 := by
  simp only [Rows.uptoBulk, Rows.uptoBulkAll, Array.length_toList]; rfl
 refine ⟨M, T, x, R, v4, B, F, rfl, hw, hF, ?_, ?_, ?_⟩
 ·rw [hd]; omega
 ·intro p hp
  have := hb p hp
  rw [hd]; omega
 ·rw [hd]; omega
end
end Go.Proofs.YtgkilllbkljibaaGreatDoor
