/- Contracts of Go functions, and plain laws. No condition but those told. -/
import Derived.Test.YtgkilllbkljibaaGreatDoorR16
set_option linter.unusedSimpArgs false
set_option linter.unusedVariables false
namespace Go.Proofs.YtgkilllbkljibaaGreatDoor
open Go.RowKit Go.Sort
theorem value_leR (B : Nat) (n : List UInt8) : ∀ L : List Prm, (∀ p ∈ L, p.value.length ≤ B) → (value L n).1.length ≤ B
 | [], _ => Nat.zero_le _
 | p :: r, h => by
  show (valueGo n (p :: r)).1.length ≤ B
  rw [valueGo]
  split
  ·exact h p (List.mem_cons_self ..)
  ·exact value_leR B n r (fun q hq => h q (List.mem_cons_of_mem _ hq))
theorem one_bdR (B : Nat) (H : List Hdr) (n : List UInt8) (h : ∀ x ∈ H, x.value.length ≤ B) : (oneS H n).1.length ≤ B := by
 unfold oneS
 split
 ·rename_i x hx
  obtain ⟨q, hq, e⟩ := allS_mem H n x (by rw [hx]; exact List.mem_singleton.2 rfl)
  rw [← e]; exact h q hq
 ·exact Nat.zero_le _
theorem us_neR {M : ByteArray} (h : M.size ≠ 0) : us M ≠ [] := fun e => h (by rw [← length_us, e]; rfl)
section
variable {m : Mg} {v : Hop} {r : List Hop} {a b : Adr} {s : List UInt8} {c : Int}
theorem mustS_1 (h : m.method = []) : mustS m = (rq0, 1) := if_pos h
theorem mustS_2 (h : m.method ≠ []) {L : List Hop} (hL : (L, c) = listV (allS m.hdrs nVia)) (hc : c ≠ 0) : (mustS m).2 = c := by
 unfold mustS; rw [if_neg h, ← hL, if_pos hc]
theorem mustS_3 (h : m.method ≠ []) (hL : (v :: r, 0) = listV (allS m.hdrs nVia)) (hb : (branchV v).2 = false) : (mustS m).2 = 70 := by
 unfold mustS; rw [if_neg h, ← hL, if_neg (fun h => h rfl)]; exact congrArg Prod.snd (if_pos hb)
theorem mustS_4 (h : m.method ≠ []) (hL : (v :: r, 0) = listV (allS m.hdrs nVia)) (hb : (branchV v).2 = true) : mustS m = must2 m v := by
 unfold mustS; rw [if_neg h, ← hL, if_neg (fun h => h rfl)]; exact if_neg (by rw [show ((v :: r, (0 : Int)).1.headD hop0) = v from rfl, hb]; decide)
theorem adrOf_ok {H : List Hdr} {n : List UInt8} (h : (s, true) = oneS H n) (ha : (a, c) = parseA s) : adrOf H n = (a, c) := by
 unfold adrOf; rw [← h, if_neg (fun h => by cases h), ha]
theorem adrOf_no {H : List Hdr} {n : List UInt8} (h : (s, false) = oneS H n) : adrOf H n = (adr0, 100) := by
 unfold adrOf; rw [← h, if_pos rfl]
theorem must2_F (hF : adrOf m.hdrs nFrom = (a, c)) (hc : c ≠ 0) : (must2 m v).2 = c := by
 unfold must2; rw [hF, if_pos hc]
theorem must2_T (hF : adrOf m.hdrs nFrom = (a, 0)) (hT : adrOf m.hdrs nTo = (b, c)) (hc : c ≠ 0) : (must2 m v).2 = c := by
 unfold must2; rw [hF, hT, if_neg (fun h => h rfl), if_pos hc]
theorem must2_ok (hF : adrOf m.hdrs nFrom = (a, 0)) (hT : adrOf m.hdrs nTo = (b, 0)) : must2 m v = must3 m v a b := by
 unfold must2; rw [hF, hT, if_neg (fun h => h rfl), if_neg (fun h => h rfl)]
theorem must3_0 {ca sq : List UInt8} {c1 c2 : Bool} (hC : (ca, c1) = oneS m.hdrs nCall) (hQ : (sq, c2) = oneS m.hdrs nCseq) (h : c1 = false ∨ c2 = false ∨ callS ca = false) : (must3 m v a b).2 = 100 := by
 unfold must3; rw [← hC, ← hQ, if_pos h]
theorem must3_1 {ca sq : List UInt8} (hC : (ca, true) = oneS m.hdrs nCall) (hQ : (sq, true) = oneS m.hdrs nCseq) (h : callS ca = true) {n : Int} {me : List UInt8} (hs : (n, me, c) = seqP sq) (h2 : c ≠ 0 ∨ me ≠ m.method) : (must3 m v a b).2 = 80 := by
 unfold must3; rw [← hC, ← hQ]; dsimp only; rw [← hs, if_neg (by rw [h]; decide), if_pos h2]
theorem must3_ok {ca sq : List UInt8} (hC : (ca, true) = oneS m.hdrs nCall) (hQ : (sq, true) = oneS m.hdrs nCseq) (h : callS ca = true) {n : Int} {me : List UInt8} (hs : (n, me, 0) = seqP sq) (h2 : me = m.method) :
  must3 m v a b = (⟨m.method, uri0, (branchV v).1, byV v, a, b, tagA a, tagA b, ca, n, -1, [], [], [], [], [], [], [], m.body⟩, 0) := by
 unfold must3; rw [← hC, ← hQ]; dsimp only; rw [← hs, if_neg (by rw [h]; decide), if_neg (by rintro (h | h); exact h rfl; exact h h2)]
end
end Go.Proofs.YtgkilllbkljibaaGreatDoor
