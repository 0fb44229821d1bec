/- Contracts of Go functions, and plain laws. No condition but those told. -/
import Derived.Test.YtipdiddjhimdcaaGreatDoorR03
import Derived.Laws.StructEq
import Derived.Deep.RegionLaw
set_option linter.unusedSimpArgs false
set_option linter.unusedVariables false
set_option maxRecDepth 100000
namespace Go.Proofs.YtipdiddjhimdcaaGreatDoor
section
open Go.RowKit
structure Prm where
 name : List UInt8
 value : List UInt8
 has : Bool
deriving DecidableEq
def Prm.cells (p : Prm) : List Value := [sv p.name, sv p.value, .bool p.has]
def RPrms (w : World) (v : Value) (L : List Prm) : Prop :=
 ((∃ ao cap, v = .slice ao 0 cap) ∧ L = []) ∨
 ∃ b off cap, v = .slice (some ⟨b, off, none⟩) L.length cap ∧ L.length ≤ cap ∧ cap ≤ maxLen ∧ b < w.heap.size ∧
  ∀ j (hj : j < L.length), w.cell? ⟨b, off + j * 3, none⟩ = some (sv L[j].name) ∧ w.cell? ⟨b, off + j * 3 + 1, none⟩ = some (sv L[j].value) ∧ w.cell? ⟨b, off + j * 3 + 2, none⟩ = some (.bool L[j].has)
theorem RPrms.below {w w' : World} {B : Nat} {v : Value} {L : List Prm} (h : RPrms w v L) (hB : Below B w w') (hs : w.heap.size ≤ B) : RPrms w' v L := by
 rcases h with h | ⟨b, off, cap, h1, h2, h2', h3, h4⟩
 ·exact .inl h
 ·refine .inr ⟨b, off, cap, h1, h2, h2', Nat.lt_of_lt_of_le h3 hB.size, fun j hj => ?_⟩
  rw [hB.cell (p := ⟨b, off + j * 3, none⟩) (by show b < B; omega), hB.cell (p := ⟨b, off + j * 3 + 1, none⟩) (by show b < B; omega), hB.cell (p := ⟨b, off + j * 3 + 2, none⟩) (by show b < B; omega)]
  exact h4 j hj
theorem RPrms.form {w : World} {v : Value} {L : List Prm} (h : RPrms w v L) : ∃ ao cap, v = .slice ao L.length cap ∧ L.length ≤ maxLen ∧
  (0 < L.length → ∃ b off, ao = some ⟨b, off, none⟩ ∧ b < w.heap.size ∧ ∀ j (hj : j < L.length), w.cell? ⟨b, off + j * 3, none⟩ = some (sv L[j].name) ∧ w.cell? ⟨b, off + j * 3 + 1, none⟩ = some (sv L[j].value) ∧ w.cell? ⟨b, off + j * 3 + 2, none⟩ = some (.bool L[j].has)) := by
 rcases h with ⟨⟨ao, cap, rfl⟩, rfl⟩ | ⟨b, off, cap, rfl, h2, h2', h3, h4⟩
 ·exact ⟨ao, cap, rfl, Nat.zero_le _, fun h => by simp at h⟩
 ·exact ⟨some ⟨b, off, none⟩, cap, rfl, Nat.le_trans h2 h2', fun _ => ⟨b, off, rfl, h3, h4⟩⟩
def placeGo (name : List UInt8) : List Prm → Nat → Int
 | [], _ => -1
 | p :: r, k => if same p.name name then (k : Int) else placeGo name r (k + 1)
def place (L : List Prm) (name : List UInt8) : Int := placeGo name L 0
theorem place_yes (L : List Prm) (name : List UInt8) (k : Nat) (h : k < L.length) (hp : place L name = placeGo name (L.drop k) k) (hs : same L[k].name name = true) : place L name = (k : Int) := by
 rw [hp, List.drop_eq_getElem_cons h, placeGo, if_pos hs]
theorem place_no (L : List Prm) (name : List UInt8) (k : Nat) (h : k < L.length) (hp : place L name = placeGo name (L.drop k) k) (hs : same L[k].name name = false) : place L name = placeGo name (L.drop (k + 1)) (k + 1) := by
 rw [hp, List.drop_eq_getElem_cons h, placeGo, if_neg (by rw [hs]; decide)]
theorem place_end (L : List Prm) (name : List UInt8) (k : Nat) (h : L.length ≤ k) (hp : place L name = placeGo name (L.drop k) k) : place L name = -1 := by
 rw [hp, List.drop_eq_nil_iff.2 h, placeGo]
end
section
open Go.RowKit
set_option maxHeartbeats 800000 in
theorem place_c (v : Value) (L : List Prm) (s : ByteArray) (hs : s.size ≤ 140737488355328) (w : World) (h1 : RPrms w v L) (hb : ∀ p ∈ L, p.name.length ≤ 140737488355328) :
  Calls Tryz.prog 169 #[v, .string s] w fun e w' => e = .returned (.int .i64 (place L (us s))) ∧ Below w.heap.size w w' := by
 obtain ⟨ao, cap, rfl, hm1, c1⟩ := h1.form
 have C1 := κ c1
 have HBD := κ hb
 clear c1 h1 hb
 unfold maxLen at hm1
 go_enter Tryz.func169, Tryz.ntmps169
 go_wp2
 go_loopw [5] (fun i wr => ∃ k : Nat, k ≤ L.length ∧ i = .int .i64 k ∧ Below w.heap.size w wr ∧ place L (us s) = placeGo (us s) (L.drop k) k) (fun i _ => L.length - (intOf i).toNat)
 case atStart => exact ⟨0, Nat.zero_le _, rfl, Below.refl _ _, rfl⟩
 case round =>
  obtain ⟨k, hk, rfl, hB, hp⟩ := hrel
  have HP := κ hp; clear hp
  by_cases hlt : k < L.length
  ·obtain ⟨b, off, rfl, hb1, hc1⟩ := C1.out (by omega)
   have x1 : wr.cell? ⟨b, off + k * 3, none⟩ = some (.string (bs L[k].name)) := by
    rw [hB.cell (p := ⟨b, off + k * 3, none⟩) hb1]; exact (hc1 k hlt).1
   have k0 : (0 : Int) ≤ (k : Int) := by omega
   have k1 : (k : Int) < (L.length : Int) := by omega
   clear hc1
   have HS := κ (fun wx => sameR_c (bs L[k].name) s (by rw [size_bs]; exact HBD.out _ (List.getElem_mem hlt)) hs wx)
   rw [us_bs] at HS
   have HB := κ hB
   cases hq : same L[k].name (us s) with
   | true =>
    have HY := κ (place_yes L (us s) k hlt HP.out hq)
    rw [hq] at HS; clear hq
    go_wp2_with (go_at_call 192; refine (HS.out _).mono ?_; rintro e wx ⟨rfl, hC⟩)
    go_ret
    exact ⟨ret_int HY.out.symm, HB.out.trans (hC.mono HB.out.size)⟩
   | false =>
    have HY := κ (place_no L (us s) k hlt HP.out hq)
    rw [hq] at HS; clear hq
    go_wp2_with (go_at_call 192; refine (HS.out _).mono ?_; rintro e wx ⟨rfl, hC⟩)
    go_roundw
    case rel => exact ⟨k + 1, by omega, by go_num, HB.out.trans (hC.mono HB.out.size), HY.out⟩
    case measure => simp [intOf]; omega
  ·have HE := κ (place_end L (us s) k (by omega) HP.out)
   go_wp2
   go_ret
   exact ⟨ret_int HE.out.symm, hB⟩
end
section
open Go.RowKit
def valueGo (name : List UInt8) : List Prm → List UInt8 × Bool
 | [] => ([], false)
 | p :: r => if same p.name name then (p.value, true) else valueGo name r
def value (L : List Prm) (name : List UInt8) : List UInt8 × Bool := valueGo name L
theorem place_value (name : List UInt8) : ∀ (L : List Prm) (k : Nat),
  (placeGo name L k = -1 ∧ valueGo name L = ([], false)) ∨ (∃ j, ∃ h : j < L.length, placeGo name L k = ((k + j : Nat) : Int) ∧ valueGo name L = (L[j].value, true))
 | [], k => .inl ⟨rfl, rfl⟩
 | p :: r, k => by
  by_cases h : same p.name name = true
  ·exact .inr ⟨0, by simp, by rw [placeGo, if_pos h]; simp, by rw [valueGo, if_pos h]; rfl⟩
  ·rcases place_value name r (k + 1) with ⟨h1, h2⟩ | ⟨j, hj, h1, h2⟩
   ·exact .inl ⟨by rw [placeGo, if_neg h, h1], by rw [valueGo, if_neg h, h2]⟩
   ·refine .inr ⟨j + 1, by simp; omega, ?_, ?_⟩
    ·rw [placeGo, if_neg h, h1]; congr 1; omega
    ·rw [valueGo, if_neg h, h2]; simp
end
section
open Go.RowKit
def findGo (name : List UInt8) : List Prm → Prm × Bool
 | [] => (⟨[], [], false⟩, false)
 | p :: r => if same p.name name then (p, true) else findGo name r
theorem find_value (name : List UInt8) : ∀ (L : List Prm), valueGo name L = ((findGo name L).1.value, (findGo name L).2)
 | [] => rfl
 | p :: r => by
  by_cases h : same p.name name = true
  ·rw [valueGo, findGo, if_pos h, if_pos h]
  ·rw [valueGo, findGo, if_neg h, if_neg h]; exact find_value name r
theorem find_yes (L : List Prm) (name : List UInt8) (k : Nat) (h : k < L.length) (hp : findGo name L = findGo name (L.drop k)) (hs : same L[k].name name = true) : findGo name L = (L[k], true) := by
 rw [hp, List.drop_eq_getElem_cons h, findGo, if_pos hs]
theorem find_no (L : List Prm) (name : List UInt8) (k : Nat) (h : k < L.length) (hp : findGo name L = findGo name (L.drop k)) (hs : same L[k].name name = false) : findGo name L = findGo name (L.drop (k + 1)) := by
 rw [hp, List.drop_eq_getElem_cons h, findGo, if_neg (by rw [hs]; decide)]
theorem find_end (L : List Prm) (name : List UInt8) (k : Nat) (h : L.length ≤ k) (hp : findGo name L = findGo name (L.drop k)) : findGo name L = (⟨[], [], false⟩, false) := by
 rw [hp, List.drop_eq_nil_iff.2 h, findGo]
def pv (p : Prm) : Value := .agg #[sv p.name, sv p.value, .bool p.has]
theorem boxedAt {w wr : World} {cs : Array Value} {t : TypeId} (hB : Below (w.heap.size + 1) (w.alloc (.cells cs t)) wr) : wr.heap[w.heap.size]? = some (.cells cs t (0, 0)) :=
 (hB.block w.heap.size (by omega)).trans (heap_alloc_new w _)
theorem boxedCell {w : World} {g : Nat} {cs : Array Value} {t : TypeId} (h : w.heap[g]? = some (.cells cs t (0, 0))) (i : Nat) : w.cell? ⟨g, i, none⟩ = cs[i]? := cell_of_row w g i cs t (0, 0) h
theorem boxedFree {w : World} {g : Nat} {cs : Array Value} {t : TypeId} (h : w.heap[g]? = some (.cells cs t (0, 0))) (i : Nat) : w.frozen? ⟨g, i, none⟩ = false := by simp [World.frozen?, h]
theorem boxed {w wr : World} {a b c : Value} {t : TypeId} (hB : Below (w.heap.size + 1) (w.alloc (.cells #[a, b, c] t)) wr) :
  wr.cell? ⟨w.heap.size, 0, none⟩ = some a ∧ wr.cell? ⟨w.heap.size, 1, none⟩ = some b ∧ wr.cell? ⟨w.heap.size, 2, none⟩ = some c ∧
  wr.frozen? ⟨w.heap.size, 0, none⟩ = false ∧ wr.frozen? ⟨w.heap.size, 1, none⟩ = false ∧ wr.frozen? ⟨w.heap.size, 2, none⟩ = false :=
 have h := boxedAt hB
 ⟨boxedCell h 0, boxedCell h 1, boxedCell h 2, boxedFree h 0, boxedFree h 1, boxedFree h 2⟩
set_option maxHeartbeats 1600000 in
theorem find_c (v : Value) (L : List Prm) (s : ByteArray) (hs : s.size ≤ 140737488355328) (w : World) (h1 : RPrms w v L) (hb : ∀ p ∈ L, p.name.length ≤ 140737488355328) :
  Calls Tryz.prog 116 #[v, .string s] w fun e w' => e = .returned (.tuple #[pv (findGo (us s) L).1, .bool (findGo (us s) L).2]) ∧ Below w.heap.size w w' := by
 obtain ⟨ao, cap, rfl, hm1, c1⟩ := h1.form
 have C1 := κ c1
 have HBD := κ hb
 clear c1 h1 hb
 unfold maxLen at hm1
 go_enter Tryz.func116, Tryz.ntmps116
 go_wp2
 have z0 : (w.alloc (.cells #[.string ⟨#[]⟩, .string ⟨#[]⟩, .bool false] 85)).heap.size = w.heap.size + 1 := World.size_alloc _ _
 have rc := κ (fun (wr : World) (hB : Below (w.heap.size + 1) (w.alloc (.cells #[.string ⟨#[]⟩, .string ⟨#[]⟩, .bool false] 85)) wr) => boxed hB)
 obtain ⟨w0, hw0⟩ : ∃ w0 : World, w0 = w.alloc (.cells #[.string ⟨#[]⟩, .string ⟨#[]⟩, .bool false] 85) := ⟨_, rfl⟩
 have hBw : Below w.heap.size w w0 := by rw [hw0]; exact (Below.refl _ _).alloc (ρ _) _
 rw [← hw0] at rc z0
 simp only [← hw0]
 have HW := κ hw0
 clear hw0
 go_loopw [10] (fun i wr => ∃ k : Nat, k ≤ L.length ∧ i = .int .i64 k ∧ Below (w.heap.size + 1) w0 wr ∧ findGo (us s) L = findGo (us s) (L.drop k)) (fun i _ => L.length - (intOf i).toNat)
 case atStart => exact ⟨0, Nat.zero_le _, rfl, Below.refl _ _, rfl⟩
 case round =>
  obtain ⟨k, hk, rfl, hB, hp⟩ := hrel
  have HP := κ hp; clear hp
  have hz : w.heap.size < wr.heap.size := by have := hB.size; omega
  have hBr : Below w.heap.size w wr := hBw.trans (hB.mono (by omega))
  obtain ⟨r0, r1, r2, f0, f1, f2⟩ := rc.out wr hB
  by_cases hlt : k < L.length
  ·obtain ⟨b, off, rfl, hb1, hc1⟩ := C1.out (by omega)
   have x0 : wr.cell? ⟨b, off + k * 3, none⟩ = some (.string (bs L[k].name)) := by
    rw [hBr.cell (p := ⟨b, off + k * 3, none⟩) hb1]; exact (hc1 k hlt).1
   have x1 : wr.cell? ⟨b, off + k * 3 + 1, none⟩ = some (.string (bs L[k].value)) := by
    rw [hBr.cell (p := ⟨b, off + k * 3 + 1, none⟩) hb1]; exact (hc1 k hlt).2.1
   have x2 : wr.cell? ⟨b, off + k * 3 + 2, none⟩ = some (.bool L[k].has) := by
    rw [hBr.cell (p := ⟨b, off + k * 3 + 2, none⟩) hb1]; exact (hc1 k hlt).2.2
   have k0 : (0 : Int) ≤ (k : Int) := by omega
   have k1 : (k : Int) < (L.length : Int) := by omega
   clear hc1
   have HS := κ (fun wx => same_c (bs L[k].name) s (by rw [size_bs]; have := HBD.out _ (List.getElem_mem hlt); omega) (by omega) wx)
   rw [us_bs] at HS
   have HBr := κ hBr
   clear hBr
   cases hq : same L[k].name (us s) with
   | true =>
    have HY := κ (find_yes L (us s) k hlt HP.out hq)
    rw [hq] at HS; clear hq
    go_wp2_with (go_at_call 93; refine (HS.out _).mono ?_; rintro e wx ⟨rfl, ⟨nd, rfl⟩⟩)
    refine bodyPost_ret (v := .tuple #[pv L[k], .bool true]) (by simp [results, Tryz.results116, go_sem, pv, sv, hz, r0, r1, r2]) rfl ⟨by rw [HY.out], ?_⟩
    exact (((below_drewN (HBr.out.alloc (Nat.le_of_lt hz) _) nd).setCell (ρ _) _).setCell (ρ _) _).setCell (ρ _) _
   | false =>
    have HY := κ (find_no L (us s) k hlt HP.out hq)
    rw [hq] at HS; clear hq
    go_wp2_with (go_at_call 93; refine (HS.out _).mono ?_; rintro e wx ⟨rfl, ⟨nd, rfl⟩⟩)
    go_roundw
    case rel => exact ⟨k + 1, by omega, by go_num, (below_drewN (hB.alloc (by omega) _) _), HY.out⟩
    case measure => simp [intOf]; omega
  ·have HE := κ (find_end L (us s) k (by omega) HP.out)
   go_wp2
   refine bodyPost_ret (v := .tuple #[.agg #[.string ⟨#[]⟩, .string ⟨#[]⟩, .bool false], .bool false]) (by simp [results, Tryz.results116, go_sem, r0, r1, r2]) rfl ⟨by rw [HE.out]; rfl, ?_⟩
   exact ((hBr.setCell (ρ _) _).setCell (ρ _) _).setCell (ρ _) _
theorem value_c (v : Value) (L : List Prm) (s : ByteArray) (hs : s.size ≤ 140737488355328) (w : World) (h1 : RPrms w v L) (hb : ∀ p ∈ L, p.name.length ≤ 140737488355328) :
  Calls Tryz.prog 63 #[v, .string s] w fun e w' => e = .returned (.tuple #[.string (bs (value L (us s)).1), .bool (value L (us s)).2]) ∧ Below w.heap.size w w' := by
 have HF := κ (fun wx (hx : RPrms wx v L) => find_c v L s hs wx hx hb)
 have HV := κ (show value L (us s) = _ from find_value (us s) L)
 have H1 := κ h1
 clear hb h1
 obtain ⟨p, hp⟩ : ∃ p, p = findGo (us s) L := ⟨_, rfl⟩
 rw [← hp] at HV HF
 clear hp
 unfold pv sv at HF
 go_enter Tryz.func63, Tryz.ntmps63
 go_wp2_with (go_at_call 116; refine (HF.out _ H1.out).mono ?_; rintro e wx ⟨rfl, hC⟩)
 go_ret2
 exact ⟨by rw [HV.out]; rfl, hC.alloc hC.size _⟩
end
section
open Go.RowKit
def Blk (w : World) (g : Nat) (t : TypeId) (cs : Array Value) : Prop := w.heap[g]? = some (.cells cs t (0, 0))
section
variable {w w' : World} {g : Nat} {t : TypeId} {cs : Array Value}
theorem Blk.lt (h : Blk w g t cs) : g < w.heap.size := (Array.getElem?_eq_some_iff.1 h).1
theorem Blk.new (w : World) (t : TypeId) (cs : Array Value) : Blk (w.alloc (.cells cs t)) w.heap.size t cs := heap_alloc_new w _
theorem Blk.below {B : Nat} (h : Blk w g t cs) (hb : Below B w w') (hg : g < B) : Blk w' g t cs := (hb.block g hg).trans h
theorem Blk.call (h : Blk w g t cs) (hb : Below w.heap.size w w') : Blk w' g t cs := h.below hb h.lt
theorem Blk.alloc (h : Blk w g t cs) (o : Obj) : Blk (w.alloc o) g t cs := (Below.heap_alloc w o g h.lt).trans h
theorem Blk.set_ (h : Blk w g t cs) (i : Nat) (u : Value) : Blk (w.setCell ⟨g, i, none⟩ u) g t (cs.setIfInBounds i u) := by
 unfold Blk at h ⊢
 simp [World.setCell, Array.getElem?_modify, h]
theorem Blk.far (h : Blk w g t cs) {p : Addr} (hp : g ≠ p.block) (u : Value) : Blk (w.setCell p u) g t cs := (Below.heap_setCell w p u g hp).trans h
theorem Blk.f2 {a b : Value} (h : Blk w g t #[a, b]) : w.cell? ⟨g, 0, none⟩ = some a ∧ w.cell? ⟨g, 1, none⟩ = some b ∧ w.frozen? ⟨g, 0, none⟩ = false ∧ w.frozen? ⟨g, 1, none⟩ = false ∧ g < w.heap.size :=
 ⟨boxedCell h 0, boxedCell h 1, boxedFree h 0, boxedFree h 1, h.lt⟩
theorem Blk.f3 {a b c : Value} (h : Blk w g t #[a, b, c]) : w.cell? ⟨g, 0, none⟩ = some a ∧ w.cell? ⟨g, 1, none⟩ = some b ∧ w.cell? ⟨g, 2, none⟩ = some c ∧ w.frozen? ⟨g, 0, none⟩ = false ∧ w.frozen? ⟨g, 1, none⟩ = false ∧ w.frozen? ⟨g, 2, none⟩ = false ∧ g < w.heap.size :=
 ⟨boxedCell h 0, boxedCell h 1, boxedCell h 2, boxedFree h 0, boxedFree h 1, boxedFree h 2, h.lt⟩
end
theorem newCall {w w1 : World} {t : TypeId} {cs : Array Value} (hC : Below (w.alloc (.cells cs t)).heap.size (w.alloc (.cells cs t)) w1) : Blk w1 w.heap.size t cs ∧ Below w.heap.size w w1 ∧ w.heap.size < w1.heap.size := by
 have hs : (w.alloc (.cells cs t)).heap.size = w.heap.size + 1 := World.size_alloc _ _
 rw [hs] at hC
 exact ⟨boxedAt hC, ((Below.refl _ _).alloc (ρ _) _).trans (hC.mono (by omega)), by have := hC.size; omega⟩
end
section
open Go.RowKit
theorem prms_drop (L M : List Prm) (k : Nat) (h1 : k < L.length) (h2 : k < M.length) : (L.drop k == M.drop k) = ((L[k] == M[k]) && (L.drop (k + 1) == M.drop (k + 1))) := by
 rw [List.drop_eq_getElem_cons h1, List.drop_eq_getElem_cons h2]; rfl
theorem prm_eq (p q : Prm) : (p == q) = (((bs p.name).toList == (bs q.name).toList) && ((bs p.value).toList == (bs q.value).toList) && (p.has == q.has)) := by
 simp only [toList_us, us_bs]
 obtain ⟨a, b, c⟩ := p
 obtain ⟨a', b', c'⟩ := q
 rw [Bool.eq_iff_iff]
 simp [and_assoc]
set_option maxHeartbeats 1600000 in
theorem lists_c (v1 v2 : Value) (L M : List Prm) (w : World) (h1 : RPrms w v1 L) (h2 : RPrms w v2 M) :
  Calls Tryz.prog 64 #[v1, v2] w fun e w' => e = .returned (.bool (L == M)) ∧ Drn w w' := by
 obtain ⟨ao, cap, rfl, hm1, c1⟩ := h1.form
 obtain ⟨bo, cap', rfl, hm2, c2⟩ := h2.form
 have C1 := κ c1
 have C2 := κ c2
 clear c1 c2 h1 h2
 unfold maxLen at hm1 hm2
 by_cases hne : L.length = M.length
 ·have hle1 : L.length ≤ M.length := by omega
  have hle2 : M.length ≤ L.length := by omega
  have hn : ((L.length : Int) != (M.length : Int)) = false := by simp [hne]
  clear hne
  go_enter Tryz.func64, Tryz.ntmps64
  go_wp2
  go_loopw [5] (fun i wr => ∃ k : Nat, k ≤ L.length ∧ i = .int .i64 k ∧ Drn w wr ∧ (L.drop k == M.drop k) = (L == M)) (fun i _ => L.length - (intOf i).toNat)
  case atStart => exact ⟨0, Nat.zero_le _, rfl, Drn.refl _, rfl⟩
  case round =>
   obtain ⟨k, hk, rfl, hD, hb⟩ := hrel
   have HB := κ hb; clear hb
   by_cases hlt : k < L.length
   ·have hlt' : k < M.length := by omega
    obtain ⟨b, off, rfl, hb1, hc1⟩ := C1.out (by omega)
    obtain ⟨b', off', rfl, hb2, hc2⟩ := C2.out (by omega)
    have hd := κ (prms_drop L M k hlt hlt')
    have x1 : wr.cell? ⟨b, off + k * 3, none⟩ = some (sv L[k].name) ∧ wr.cell? ⟨b, off + k * 3 + 1, none⟩ = some (sv L[k].value) ∧ wr.cell? ⟨b, off + k * 3 + 2, none⟩ = some (.bool L[k].has) := by
     obtain ⟨n, rfl⟩ := hD; exact hc1 k hlt
    have x2 : wr.cell? ⟨b', off' + k * 3, none⟩ = some (sv M[k].name) ∧ wr.cell? ⟨b', off' + k * 3 + 1, none⟩ = some (sv M[k].value) ∧ wr.cell? ⟨b', off' + k * 3 + 2, none⟩ = some (.bool M[k].has) := by
     obtain ⟨n, rfl⟩ := hD; exact hc2 k hlt'
    unfold sv at x1 x2
    obtain ⟨y0, y1, y2⟩ := x1
    obtain ⟨z0, z1, z2⟩ := x2
    have k0 : (0 : Int) ≤ (k : Int) := by omega
    have k1 : (k : Int) < (L.length : Int) := by omega
    have k2 : (k : Int) < (M.length : Int) := by omega
    clear hc1 hc2
    have HPE := κ (prm_eq L[k] M[k])
    obtain ⟨A0, hA0⟩ : ∃ A, A = bs L[k].name := ⟨_, rfl⟩
    obtain ⟨A1, hA1⟩ : ∃ A, A = bs L[k].value := ⟨_, rfl⟩
    obtain ⟨A2, hA2⟩ : ∃ A, A = L[k].has := ⟨_, rfl⟩
    obtain ⟨B0, hB0⟩ : ∃ A, A = bs M[k].name := ⟨_, rfl⟩
    obtain ⟨B1, hB1⟩ : ∃ A, A = bs M[k].value := ⟨_, rfl⟩
    obtain ⟨B2, hB2⟩ : ∃ A, A = M[k].has := ⟨_, rfl⟩
    rw [← hA0] at y0 HPE
    rw [← hA1] at y1 HPE
    rw [← hA2] at y2 HPE
    rw [← hB0] at z0 HPE
    rw [← hB1] at z1 HPE
    rw [← hB2] at z2 HPE
    clear hA0 hA1 hA2 hB0 hB1 hB2
    have hcase : ((A0.toList == B0.toList) = true ∧ (A1.toList == B1.toList) = true ∧ (A2 == B2) = true) ∨ ((A0.toList == B0.toList) = false) ∨ ((A0.toList == B0.toList) = true ∧ (A1.toList == B1.toList) = false) ∨ ((A0.toList == B0.toList) = true ∧ (A1.toList == B1.toList) = true ∧ (A2 == B2) = false) := by
     cases (A0.toList == B0.toList) <;> cases (A1.toList == B1.toList) <;> cases (A2 == B2) <;> simp
    rcases hcase with ⟨q0, q1, q2⟩ | hc
    ·rw [q0, q1, q2] at HPE
     go_wp2
     go_quiet (fail)
     go_wp2
     go_roundw
     case rel => exact ⟨k + 1, by omega, by go_num, hD.step _, by rw [← HB.out, hd.out, HPE.out]; rfl⟩
     case measure => simp [intOf]; omega
    ·have HF := κ (show (L[k] == M[k]) = false by
      rw [HPE.out]
      rcases hc with q0 | ⟨q0, q1⟩ | ⟨q0, q1, q2⟩
      ·rw [q0]; rfl
      ·rw [q0, q1]; rfl
      ·rw [q0, q1, q2]; rfl)
     rcases hc with q0 | ⟨q0, q1⟩ | ⟨q0, q1, q2⟩
     all_goals
      go_wp2
      go_quiet (fail)
      go_wp2
      go_ret
      exact ⟨ret_bool (by rw [← HB.out, hd.out, HF.out]; rfl), hD.step _⟩
   ·go_wp2
    go_ret
    refine ⟨ret_bool ?_, hD⟩
    rw [← HB.out, List.drop_eq_nil_iff.2 (by omega), List.drop_eq_nil_iff.2 (by omega)]; rfl
 ·have hn : ((L.length : Int) != (M.length : Int)) = true := by simp; omega
  have HN := κ (show (L == M) = false by
   rw [beq_eq_false_iff_ne]; intro e; exact hne (congrArg List.length e))
  clear hne
  go_enter Tryz.func64, Tryz.ntmps64
  go_wp2
  go_ret
  exact ⟨ret_bool HN.out.symm, Drn.refl _⟩
end
section
open Go.RowKit
def wordS (l : List UInt8) : Bool := token l || hostS (lowr l)
theorem lowr_length (l : List UInt8) : (lowr l).length = l.length := by unfold lowr; simp
theorem hostS_len (l : List UInt8) (h : l.length = 0 ∨ 64 < l.length) : hostS (lowr l) = false := host_no _ (by rw [lowr_length]; rcases h with h | h <;> simp [h])
theorem word_long (l : List UInt8) (h : l.length = 0 ∨ 64 < l.length) (ht : token l = false) : wordS l = false := by unfold wordS; rw [ht, hostS_len l h]; rfl
set_option maxHeartbeats 800000 in
theorem word_c (s : ByteArray) (hs : s.size ≤ 4294967280) (w : World) (hm : Ml w) :
  Calls Tryz.prog 114 #[.string s] w fun e w' => e = .returned (.bool (wordS (us s))) ∧ Below w.heap.size w w' := by
 have HT := κ (fun wx => token_c s (by omega) wx)
 have HM := κ hm
 have hR : Below w.heap.size w w := Below.refl _ _
 have hsz : (bs (lowr (us s))).size = s.size := by rw [size_bs, lowr_length, length_us]
 have HL := κ (fun wx => lowerP_c s (by omega) wx)
 have HH := κ (fun wx hx => host_c (bs (lowr (us s))) (by omega) wx hx)
 rw [us_bs] at HH
 have HW := κ (show wordS (us s) = (token (us s) || hostS (lowr (us s))) from rfl)
 have HZ := κ (word_long (us s))
 rw [length_us] at HZ
 obtain ⟨lo, hlo⟩ : ∃ lo, lo = bs (lowr (us s)) := ⟨_, rfl⟩
 rw [← hlo] at HL HH
 clear hm hsz hlo
 cases ht : token (us s) with
 | true =>
  rw [ht] at HT HW; clear ht
  go_enter Tryz.func114, Tryz.ntmps114
  go_wp2_with (go_at_call 31; refine (HT.out _).mono ?_; rintro e wx ⟨rfl, rfl⟩)
  go_ret
  exact ⟨ret_bool (by rw [HW.out]; rfl), hR⟩
 | false =>
  have HZ' := κ (fun h => HZ.out h ht)
  rw [ht] at HT HW; clear ht HZ
  by_cases hz : s.size = 0
  ·have HN := κ (HZ'.out (.inl hz))
   obtain rfl := eq_empty hz
   go_enter Tryz.func114, Tryz.ntmps114
   go_wp2_with (go_at_call 31; refine (HT.out _).mono ?_; rintro e wx ⟨rfl, rfl⟩)
   all_goals
    go_ret
    exact ⟨ret_bool (by rw [HN.out]), hR⟩
  have pE := ne_empty hz
  have pF := isEmpty_f hz
  by_cases h64 : 64 < s.size
  ·have HN := κ (HZ'.out (.inr h64))
   go_enter Tryz.func114, Tryz.ntmps114
   go_wp2_with (go_at_call 31; refine (HT.out _).mono ?_; rintro e wx ⟨rfl, rfl⟩)
   all_goals
    go_ret
    exact ⟨ret_bool (by rw [HN.out]; try (simp; omega)), hR⟩
  ·go_enter Tryz.func114, Tryz.ntmps114
   go_wp2_with (first | (go_at_call 31; refine (HT.out _).mono ?_; rintro e wx ⟨rfl, rfl⟩) | (go_at_call 96; refine (HL.out _).mono ?_; rintro e w1 ⟨rfl, hC⟩) | (go_at_call 141; refine (HH.out _ (HM.out.below hC)).mono ?_; rintro e w2 ⟨rfl, hC2⟩))
   go_ret
   exact ⟨ret_bool (by rw [HW.out]; rfl), hC.trans (hC2.mono hC.size)⟩
def mayS (L : List Prm) (p : Prm) : Bool := token p.name && !(value L p.name).2 && decide (p.value.length ≤ 64) && ((quote p.value).2 == 0) && (p.has || p.value == [])
theorem may_token (L : List Prm) (p : Prm) (h : token p.name = false) : mayS L p = false := by unfold mayS; rw [h]; simp
theorem may_twice (L : List Prm) (p : Prm) (h : (value L p.name).2 = true) : mayS L p = false := by unfold mayS; rw [h]; simp
theorem may_long (L : List Prm) (p : Prm) (h : ¬ p.value.length ≤ 64) : mayS L p = false := by unfold mayS; rw [decide_eq_false h]; simp
theorem may_quote (L : List Prm) (p : Prm) (h : ((quote p.value).2 == 0) = false) : mayS L p = false := by unfold mayS; rw [h]; simp
theorem may_has (L : List Prm) (p : Prm) (h : p.has = false) (h' : ¬ p.value = []) : mayS L p = false := by unfold mayS; rw [h]; simp [h']
theorem may_yes (L : List Prm) (p : Prm) (h1 : token p.name = true) (h2 : (value L p.name).2 = false) (h3 : p.value.length ≤ 64) (h4 : ((quote p.value).2 == 0) = true) (h5 : p.has = true ∨ p.value = []) : mayS L p = true := by
 unfold mayS; rw [h1, h2, h4, decide_eq_true h3]
 rcases h5 with h | h <;> simp [h]
theorem box3 {w w1 : World} {a b c : Value} {t : TypeId} (hC : Below (w.alloc (.cells #[a, b, c] t)).heap.size (w.alloc (.cells #[a, b, c] t)) w1) :
  w1.cell? ⟨w.heap.size, 0, none⟩ = some a ∧ w1.cell? ⟨w.heap.size, 1, none⟩ = some b ∧ w1.cell? ⟨w.heap.size, 2, none⟩ = some c ∧ w.heap.size < w1.heap.size ∧ Below w.heap.size w w1 := by
 have hs : (w.alloc (.cells #[a, b, c] t)).heap.size = w.heap.size + 1 := World.size_alloc _ _
 rw [hs] at hC
 obtain ⟨r0, r1, r2, _⟩ := boxed hC
 refine ⟨r0, r1, r2, by have := hC.size; omega, ((Below.refl _ _).alloc (ρ _) _).trans (hC.mono (by omega))⟩
theorem box3n {w1 w2 : World} {g : Nat} {a b c : Value} (r0 : w1.cell? ⟨g, 0, none⟩ = some a) (r1 : w1.cell? ⟨g, 1, none⟩ = some b) (r2 : w1.cell? ⟨g, 2, none⟩ = some c) (hz : g < w1.heap.size) (hC : Below w1.heap.size w1 w2) :
  w2.cell? ⟨g, 0, none⟩ = some a ∧ w2.cell? ⟨g, 1, none⟩ = some b ∧ w2.cell? ⟨g, 2, none⟩ = some c ∧ g < w2.heap.size :=
 ⟨(hC.cell (p := ⟨g, 0, none⟩) hz).trans r0, (hC.cell (p := ⟨g, 1, none⟩) hz).trans r1, (hC.cell (p := ⟨g, 2, none⟩) hz).trans r2, Nat.lt_of_lt_of_le hz hC.size⟩
set_option maxHeartbeats 1600000 in
theorem bad_c (v : Value) (L : List Prm) (p : Prm) (hn : p.name.length ≤ 4294967280) (hv : p.value.length ≤ 4294967280) (w : World) (h1 : RPrms w v L) (hb : ∀ p ∈ L, p.name.length ≤ 140737488355328) :
  Calls Tryz.prog 115 #[v, pv p] w fun e w' => e = .returned (.bool (!mayS L p)) ∧ Below w.heap.size w w' := by
 have F1 := may_token L p
 have F2 := may_twice L p
 have F3 := may_long L p
 have F4 := may_quote L p
 have F5 := may_has L p
 have F6 := may_yes L p
 have HT := κ (fun wx => token_c (bs p.name) (by rw [size_bs]; omega) wx)
 have HQ := κ (fun wx => quote_c (bs p.value) (by rw [size_bs]; omega) wx)
 have HV := κ (fun wx (hx : RPrms wx v L) => value_c v L (bs p.name) (by rw [size_bs]; omega) wx hx hb)
 have H1 := κ h1
 have hsz : (bs p.value).size = p.value.length := size_bs _
 rw [us_bs] at HT HQ HV
 have hnil : p.value = [] ↔ (bs p.value).size = 0 := by rw [size_bs, List.length_eq_zero_iff]
 rw [hnil] at F5 F6
 rw [← hsz] at F3 F6 hv
 obtain ⟨m, hm⟩ : ∃ m, m = mayS L p := ⟨_, rfl⟩
 rw [← hm] at F1 F2 F3 F4 F5 F6 ⊢
 clear hm hb h1 hsz hnil
 unfold pv sv
 obtain ⟨N, hN⟩ : ∃ N, N = bs p.name := ⟨_, rfl⟩
 obtain ⟨V, hV⟩ : ∃ V, V = bs p.value := ⟨_, rfl⟩
 rw [← hN] at HT HV ⊢
 rw [← hV] at HQ F3 F5 F6 hv ⊢
 obtain ⟨q, hq⟩ : ∃ q, q = quote p.value := ⟨_, rfl⟩
 rw [← hq] at HQ F4 F6
 obtain ⟨tw, htw⟩ : ∃ tw, tw = value L p.name := ⟨_, rfl⟩
 rw [← htw] at HV F2 F6
 obtain ⟨tk, htk⟩ : ∃ tk, tk = token p.name := ⟨_, rfl⟩
 rw [← htk] at HT F1 F6
 obtain ⟨pn, pv, h⟩ := p
 dsimp only at F1 F2 F3 F4 F5 F6 HT HV HQ ⊢
 clear hN hV hq htw htk hn
 obtain ⟨qs, qe⟩ := q
 obtain ⟨tv, tb⟩ := tw
 dsimp only at F2 F4 F6 HQ HV
 have hcase : (tk = false ∧ m = false) ∨ (tk = true ∧ tb = true ∧ m = false) ∨ (tk = true ∧ tb = false ∧ ¬ V.size ≤ 64 ∧ m = false) ∨ (tk = true ∧ tb = false ∧ V.size ≤ 64 ∧ h = false ∧ ¬ V.size = 0 ∧ m = false) ∨
   (tk = true ∧ tb = false ∧ V.size ≤ 64 ∧ h = true ∧ (qe != 0) = m.not) ∨ (tk = true ∧ tb = false ∧ h = false ∧ V.size = 0 ∧ (qe != 0) = m.not) := by
  cases tk
  ·exact .inl ⟨rfl, F1 rfl⟩
  refine .inr ?_
  cases tb
  case true => exact .inl ⟨rfl, rfl, F2 rfl⟩
  refine .inr ?_
  by_cases hl : V.size ≤ 64
  case neg => exact .inl ⟨rfl, rfl, hl, F3 hl⟩
  refine .inr ?_
  have hqe : (h = true ∨ V.size = 0) → (qe != 0) = m.not := by
   intro h5
   cases hq : (qe == 0)
   ·rw [F4 hq]; simp [bne, hq]
   ·rw [F6 rfl rfl hl hq h5]; simp [bne, hq]
  cases h
  ·by_cases hz : V.size = 0
   ·exact .inr (.inr ⟨rfl, rfl, rfl, hz, hqe (.inr hz)⟩)
   ·exact .inl ⟨rfl, rfl, hl, rfl, hz, F5 rfl hz⟩
  ·exact .inr (.inl ⟨rfl, rfl, hl, rfl, hqe (.inl rfl)⟩)
 clear F1 F2 F3 F4 F5 F6
 rcases hcase with ⟨rfl, rfl⟩ | ⟨rfl, rfl, rfl⟩ | ⟨rfl, rfl, hl, rfl⟩ | ⟨rfl, rfl, hl, rfl, hz, rfl⟩ | ⟨rfl, rfl, hl, rfl, hqm⟩ | ⟨rfl, rfl, rfl, hz, hqm⟩
 case inr.inr.inr.inr.inl =>
  have HQM := κ hqm
  cases hqe : (qe != 0)
  all_goals
   clear hqm
   go_enter Tryz.func115, Tryz.ntmps115
   go_wp2_with (first | (go_at_call 31; refine (HT.out _).mono ?_; rintro e wx ⟨rfl, rfl⟩) | (go_at_call 63; refine (HV.out _ (H1.out.below ((Below.refl _ _).alloc (ρ _) _) (ρ _))).mono ?_; rintro e w1 ⟨rfl, hC⟩; obtain ⟨r0, r1, r2, hz1, hB1⟩ := box3 hC; clear hC) | (go_at_call 80; refine (HQ.out _).mono ?_; rintro e w2 ⟨rfl, hC2⟩; obtain ⟨r0', r1', r2', hz2⟩ := box3n r0 r1 r2 hz1 hC2; have hB2 := hB1.trans (hC2.mono (Nat.le_of_lt hz1)); clear hC2))
   go_ret
   exact ⟨ret_bool (by rw [← HQM.out, hqe]; try (simp; omega)), hB2⟩
 case inr.inr.inr.inr.inr =>
  have HQM := κ hqm
  obtain rfl := eq_empty hz
  clear hz
  cases hqe : (qe != 0)
  all_goals
   clear hqm
   go_enter Tryz.func115, Tryz.ntmps115
   go_wp2_with (first | (go_at_call 31; refine (HT.out _).mono ?_; rintro e wx ⟨rfl, rfl⟩) | (go_at_call 63; refine (HV.out _ (H1.out.below ((Below.refl _ _).alloc (ρ _) _) (ρ _))).mono ?_; rintro e w1 ⟨rfl, hC⟩; obtain ⟨r0, r1, r2, hz1, hB1⟩ := box3 hC; clear hC) | (go_at_call 80; refine (HQ.out _).mono ?_; rintro e w2 ⟨rfl, hC2⟩; obtain ⟨r0', r1', r2', hz2⟩ := box3n r0 r1 r2 hz1 hC2; have hB2 := hB1.trans (hC2.mono (Nat.le_of_lt hz1)); clear hC2))
   go_ret
   exact ⟨ret_bool (by rw [← HQM.out, hqe]; try (simp; omega)), hB2⟩
 case inr.inr.inr.inl =>
  have pE := ne_empty hz
  have pF := isEmpty_f hz
  go_enter Tryz.func115, Tryz.ntmps115
  go_wp2_with (first | (go_at_call 31; refine (HT.out _).mono ?_; rintro e wx ⟨rfl, rfl⟩) | (go_at_call 63; refine (HV.out _ (H1.out.below ((Below.refl _ _).alloc (ρ _) _) (ρ _))).mono ?_; rintro e w1 ⟨rfl, hC⟩; obtain ⟨r0, r1, r2, hz1, hB1⟩ := box3 hC; clear hC) | (go_at_call 80; refine (HQ.out _).mono ?_; rintro e w2 ⟨rfl, hC2⟩; obtain ⟨r0', r1', r2', hz2⟩ := box3n r0 r1 r2 hz1 hC2; have hB2 := hB1.trans (hC2.mono (Nat.le_of_lt hz1)); clear hC2))
  go_ret
  exact ⟨ret_bool rfl, hB2⟩
 all_goals
  go_enter Tryz.func115, Tryz.ntmps115
  go_wp2_with (first | (go_at_call 31; refine (HT.out _).mono ?_; rintro e wx ⟨rfl, rfl⟩) | (go_at_call 63; refine (HV.out _ (H1.out.below ((Below.refl _ _).alloc (ρ _) _) (ρ _))).mono ?_; rintro e w1 ⟨rfl, hC⟩; obtain ⟨r0, r1, r2, hz1, hB1⟩ := box3 hC; clear hC) | (go_at_call 80; refine (HQ.out _).mono ?_; rintro e w2 ⟨rfl, hC2⟩; obtain ⟨r0', r1', r2', hz2⟩ := box3n r0 r1 r2 hz1 hC2; have hB2 := hB1.trans (hC2.mono (Nat.le_of_lt hz1)); clear hC2))
  go_ret
  exact ⟨ret_bool (by first | rfl | simp), hB2⟩
end
section
open Go.RowKit
def Prms (w : World) (base : Nat) (v : Value) (L : List Prm) : Prop := w.ownsRow base 85 3 v L.length (L.flatMap Prm.cells)
theorem Prms.nil (w : World) (base : Nat) : Prms w base (.slice none 0 0) [] := World.ownsRow_nil w base _ 3
theorem flat_at : ∀ (L : List Prm) (j : Nat) (hj : j < L.length) (i : Nat), i < 3 → (L.flatMap Prm.cells)[j * 3 + i]? = L[j].cells[i]?
 | p :: r, 0, _, i, hi => by
  rw [List.flatMap_cons, Nat.zero_mul, Nat.zero_add, List.getElem?_append_left (by simpa [Prm.cells] using hi)]; rfl
 | p :: r, j + 1, hj, i, hi => by
  rw [List.flatMap_cons, List.getElem?_append_right (by simp [Prm.cells]; omega)]
  have : (j + 1) * 3 + i - p.cells.length = j * 3 + i := by simp [Prm.cells]; omega
  rw [this]
  exact flat_at r j (by simpa using hj) i hi
theorem RPrms.of_row {w : World} {v : Value} {L : List Prm} (h : RRow w v L.length (L.flatMap Prm.cells)) : RPrms w v L := by
 rcases h with ⟨h1, h2, _⟩ | ⟨b, off, cap, h1, h2, h2', h3, h4⟩
 ·exact .inl ⟨h1, List.eq_nil_of_length_eq_zero h2⟩
 ·refine .inr ⟨b, off, cap, h1, h2, h2', h3, fun j hj => ⟨?_, ?_, ?_⟩⟩
  ·exact h4 (j * 3) _ (flat_at L j hj 0 (by decide))
  ·exact h4 (j * 3 + 1) _ (flat_at L j hj 1 (by decide))
  ·exact h4 (j * 3 + 2) _ (flat_at L j hj 2 (by decide))
theorem Prms.read {w : World} {base : Nat} {v : Value} {L : List Prm} (h : Prms w base v L) : RPrms w v L := RPrms.of_row (RRow.of_own h)
theorem Prms.below {w w' : World} {base B : Nat} {v : Value} {L : List Prm} (h : Prms w base v L) (hB : Below B w w') (hs : w.heap.size ≤ B) : Prms w' base v L := by
 refine ⟨h.1, ?_⟩
 rcases h.2 with hn | ⟨g, cap, cur, rfl, hb, hgg, rest⟩
 ·exact .inl hn
 ·refine .inr ⟨g, cap, cur, rfl, hb, ?_, rest⟩
  have hlt := (Array.getElem?_eq_some_iff.1 hgg).1
  rw [hB.block g (by omega)]; exact hgg
def Fresh (B : Nat) (u : Value) : Prop := ∀ a n c, u = .slice (some a) n c → B ≤ a.block
theorem Fresh.nil (B n c : Nat) : Fresh B (.slice none n c) := fun _ _ _ h => by cases h
theorem Fresh.mono {B B' : Nat} {u : Value} (h : Fresh B u) (hB : B' ≤ B) : Fresh B' u := fun a n c e => Nat.le_trans hB (h a n c e)
theorem Prms.fresh {w : World} {base : Nat} {v : Value} {L : List Prm} (h : Prms w base v L) : Fresh base v := by
 rcases h.2 with ⟨rfl, _⟩ | ⟨g, cap, cur, rfl, hb, _⟩
 ·exact Fresh.nil _ _ _
 ·intro a n c e
  injection e with e
  injection e with e
  rw [← e]; exact hb
theorem RPrms.set {w : World} {B : Nat} {u : Value} {L : List Prm} (h : RPrms w u L) (hF : Fresh B u) {p : Addr} (hp : p.block < B) (x : Value) : RPrms (w.setCell p x) u L := by
 rcases h with h | ⟨b, off, cap, h1, h2, h2', h3, h4⟩
 ·exact .inl h
 ·refine .inr ⟨b, off, cap, h1, h2, h2', by simpa using h3, fun j hj => ?_⟩
  have hne : B ≤ b := hF ⟨b, off, none⟩ _ _ h1
  have hk : ∀ o, (w.setCell p x).cell? ⟨b, o, none⟩ = w.cell? ⟨b, o, none⟩ := fun o => World.cell?_setCell_other w p ⟨b, o, none⟩ x (fun e => by rw [e] at hp; exact absurd hp (by show ¬ b < B; omega))
  rw [hk, hk, hk]
  exact h4 j hj
theorem infoP : infoIs Tryz.prog 85 (.agg #[.string ⟨#[]⟩, .string ⟨#[]⟩, .bool false]) 3 40 := by unfold infoIs; kernel_rfl
section
variable {P : Program} {ops : Array Oper} {rest : List Oper} {o : Oper} {a : Act} {Q : Exit → Act → World → Prop}
theorem wpList_appP1 {wE w : World} {base : Nat} {t : TypeId} {v : Value} {L : List Prm} {s x : Operand} {N V : ByteArray} {h : Bool} (p : Prm) (hN : us N = p.name) (hV : us V = p.value) (hh : h = p.has)
  (hgd : o.guard = none) (ho : o.op = .call { callee := .builtin .append, args := #[s, x], argTypes := #[t, t] })
  (ht : P.underlying t = some (.slice 85)) (hi : infoIs P 85 (.agg #[.string ⟨#[]⟩, .string ⟨#[]⟩, .bool false]) 3 40)
  (hx : a.eval x = .slice (some ⟨w.heap.size, 0, none⟩) 1 1) (hs : a.eval s = v) (hown : Prms w base v L) (hB : Below base wE w) (hbase : base ≤ wE.heap.size)
  (hbd : (L.length + 1) * 40 ≤ 140737488355328)
  (hk : ∀ v' w', Prms w' base v' (L ++ [p]) → Below base wE w' → wpList P ops Q rest (a.put o.dst v') w') :
  wpList P ops Q (o :: rest) a (w.alloc (.cells #[.string N, .string V, .bool h] 85)) := by
 subst hh
 refine wpList_app hgd ho ht hi rfl (by decide) hx hs hown hB hbase rfl (by simp; exact ⟨rfl, rfl, rfl⟩) (by decide) hbd ?_
 intro v' w' h1 h2 _ _
 refine hk v' w' ?_ h2
 unfold Prms
 have e : L.flatMap Prm.cells ++ #[Value.string N, Value.string V, Value.bool p.has].toList = (L ++ [p]).flatMap Prm.cells := by
  rw [List.flatMap_append]; simp [Prm.cells, sv, ← hN, ← hV]
 rw [← e, List.length_append]; exact h1
end
def chk (L : List Prm) (p : Prm) : Option Prm := if mayS L p = true then some p else none
def fieldOf (L : List Prm) (n0 v0 : List UInt8) (has : Bool) : Option Prm :=
 if opens 34 (trim v0) = true then (if (unquote (trim v0)).2 = 0 then chk L ⟨trim n0, (unquote (trim v0)).1, has⟩ else none)
 else if has = true ∧ wordS (trim v0) = false then none else chk L ⟨trim n0, trim v0, has⟩
def field (L : List Prm) (x : List UInt8) : Option Prm := fieldOf L (cutb 61 x).1 (cutb 61 x).2.1 (cutb 61 x).2.2
def fieldsGo (L : List Prm) : List (List UInt8) → Option (List Prm)
 | [] => some L
 | x :: r => (field L x).bind fun p => fieldsGo (L ++ [p]) r
def okL (e : Int) : Option (List Prm) → List Prm × Int
 | some r => (r, 0)
 | none => ([], e)
def fieldsS (parts : List (List UInt8)) : List Prm × Int := if 16 < parts.length then ([], 4) else okL 34 (fieldsGo [] parts)
theorem unqGo_len : ∀ (l r : List UInt8), unqGo l = some r → r.length ≤ l.length
 | [], r, h => by unfold unqGo at h; injection h with h; rw [← h]; exact ρ _
 | [c], r, h => by
  unfold unqGo at h
  split at h
  ·injection h with h; rw [← h]; exact ρ _
  ·cases h
 | c :: d :: t, r, h => by
  unfold unqGo at h
  split at h
  ·split at h
   ·cases h
   ·cases hq : unqGo t with
    | none => rw [hq] at h; cases h
    | some y => rw [hq] at h; injection h with h; rw [← h]; have := unqGo_len t y hq; simp; omega
  ·split at h
   ·cases hq : unqGo (d :: t) with
    | none => rw [hq] at h; cases h
    | some y => rw [hq] at h; injection h with h; rw [← h]; have := unqGo_len (d :: t) y hq; simp at this ⊢; omega
   ·cases h
theorem unquote_len (l : List UInt8) : (unquote l).1.length ≤ l.length := by
 unfold unquote
 split
 ·exact Nat.zero_le _
 ·cases hq : unqGo ((l.drop 1).take (l.length - 2)) with
  | none => exact Nat.zero_le _
  | some y =>
   have := unqGo_len _ _ hq
   rw [List.length_take, List.length_drop] at this
   show y.length ≤ _
   omega
theorem mayS_len {L : List Prm} {p : Prm} (h : mayS L p = true) : p.name.length ≤ 64 ∧ p.value.length ≤ 64 := by
 unfold mayS token at h
 simp only [Bool.and_eq_true, decide_eq_true_eq] at h
 exact ⟨h.1.1.1.1.1.2, h.1.1.2⟩
theorem fields_step (L : List Prm) (Ps : List (List UInt8)) (k : Nat) (h : k < Ps.length) (hp : fieldsGo [] Ps = fieldsGo L (Ps.drop k)) : fieldsGo [] Ps = (field L Ps[k]).bind fun p => fieldsGo (L ++ [p]) (Ps.drop (k + 1)) := by
 rw [hp, List.drop_eq_getElem_cons h, fieldsGo]
theorem fields_bad (Ps : List (List UInt8)) (h16 : Ps.length ≤ 16) (h : fieldsGo [] Ps = none) : fieldsS Ps = ([], 34) := by
 unfold fieldsS; rw [if_neg (by omega), h]; rfl
theorem fields_end (L : List Prm) (Ps : List (List UInt8)) (h16 : Ps.length ≤ 16) (hp : fieldsGo [] Ps = fieldsGo L (Ps.drop Ps.length)) : fieldsS Ps = (L, 0) := by
 unfold fieldsS; rw [if_neg (by omega), hp, List.drop_length]; rfl
end
section
open Go.RowKit
theorem box3s {w2 w3 : World} {g : Nat} {a b c x : Value} (r0 : w2.cell? ⟨g, 0, none⟩ = some a) (r1 : w2.cell? ⟨g, 1, none⟩ = some b) (r2 : w2.cell? ⟨g, 2, none⟩ = some c) (hz : g < w2.heap.size)
  (hC : Below (w2.setCell ⟨g, 1, none⟩ x).heap.size (w2.setCell ⟨g, 1, none⟩ x) w3) :
  w3.cell? ⟨g, 0, none⟩ = some a ∧ w3.cell? ⟨g, 1, none⟩ = some x ∧ w3.cell? ⟨g, 2, none⟩ = some c ∧ g < w3.heap.size ∧ Below g w2 w3 := by
 have hs : (w2.setCell ⟨g, 1, none⟩ x).heap.size = w2.heap.size := by simp
 rw [hs] at hC
 refine ⟨?_, ?_, ?_, Nat.lt_of_lt_of_le hz (hs ▸ hC.size), ((Below.refl _ _).setCell (ρ _) _).trans (hC.mono (Nat.le_of_lt hz))⟩
 ·rw [hC.cell (p := ⟨g, 0, none⟩) hz, World.cell?_setCell_other w2 ⟨g, 1, none⟩ ⟨g, 0, none⟩ x (fun e => by injection e with _ e; cases e)]; exact r0
 ·rw [hC.cell (p := ⟨g, 1, none⟩) hz]; exact World.cell?_setCell_same _ _ _ r1
 ·rw [hC.cell (p := ⟨g, 2, none⟩) hz, World.cell?_setCell_other w2 ⟨g, 1, none⟩ ⟨g, 2, none⟩ x (fun e => by injection e with _ e; cases e)]; exact r2
theorem box3f {w w1 : World} {a b c : Value} {t : TypeId} (hC : Below (w.alloc (.cells #[a, b, c] t)).heap.size (w.alloc (.cells #[a, b, c] t)) w1) : w1.frozen? ⟨w.heap.size, 1, none⟩ = false := by
 have hs : (w.alloc (.cells #[a, b, c] t)).heap.size = w.heap.size + 1 := World.size_alloc _ _
 rw [hs] at hC
 exact (boxed hC).2.2.2.2.1
set_option maxHeartbeats 3200000 in
theorem fields_c (v0 : Value) (Ps : List (List UInt8)) (w : World) (hm : Ml w) (hv : RStrs w v0 Ps) (hbd : ∀ x ∈ Ps, x.length ≤ 4294967280) :
  Calls Tryz.prog 62 #[v0] w fun e w' => ∃ u, e = .returned (.tuple #[u, .int .i64 (fieldsS Ps).2]) ∧ RPrms w' u (fieldsS Ps).1 ∧ Fresh w.heap.size u ∧ Below w.heap.size w w' := by
 obtain ⟨ao, cap, rfl, hm1, c1⟩ := hv.form
 have C1 := κ c1
 have HBD := κ hbd
 have HM := κ hm
 clear c1 hv hbd hm
 unfold maxLen at hm1
 by_cases h16 : 16 < Ps.length
 ·have HN := κ (show fieldsS Ps = ([], 4) by unfold fieldsS; rw [if_pos h16])
  go_enter Tryz.func62, Tryz.ntmps62
  go_wp2
  go_ret2
  exact ⟨_, by rw [HN.out]; rfl, .inl ⟨⟨_, _, rfl⟩, by rw [HN.out]⟩, Fresh.nil _ _ _, Below.refl _ _⟩
 have HFB := κ (fields_bad Ps (by omega))
 have HFE := κ (fun L => fields_end L Ps (by omega))
 go_enter Tryz.func62, Tryz.ntmps62
 go_wp2
 go_loopw [4, 19] (fun vo i wr => ∃ (k : Nat) (L : List Prm), k ≤ Ps.length ∧ i = .int .i64 k ∧ Prms wr w.heap.size vo L ∧ L.length ≤ k ∧ (∀ p ∈ L, p.name.length ≤ 64) ∧ fieldsGo [] Ps = fieldsGo L (Ps.drop k) ∧ Below w.heap.size w wr) (fun _ i _ => Ps.length - (intOf i).toNat)
 case atStart => exact ⟨0, [], Nat.zero_le _, rfl, Prms.nil _ _, ρ _, by simp, rfl, Below.refl _ _⟩
 case round =>
  obtain ⟨k, L, hk, rfl, hown, hl, hbl, hp, hB⟩ := hrel
  have HBL := κ hbl; clear hbl
  by_cases hlt : k < Ps.length
  ·have hst := fields_step L Ps k hlt hp
   obtain ⟨b, off, rfl, hb1, hc1⟩ := C1.out (by omega)
   have x1 : wr.cell? ⟨b, off + k, none⟩ = some (.string (bs Ps[k])) := by
    rw [hB.cell (p := ⟨b, off + k, none⟩) hb1]; exact hc1 k hlt
   have k0 : (0 : Int) ≤ (k : Int) := by omega
   have k1 : (k : Int) < (Ps.length : Int) := by omega
   have hxs := HBD.out _ (List.getElem_mem hlt)
   clear hc1 hp
   unfold field at hst
   have hcl := cutb_le 61 Ps[k]
   have hmr := HM.out.below hB
   have HCT := κ (cut_c (bs Ps[k]) (by rw [size_bs]; omega) 61 wr hmr)
   rw [us_bs] at HCT
   obtain ⟨c, hc⟩ : ∃ c, c = cutb 61 Ps[k] := ⟨_, rfl⟩
   rw [← hc] at HCT hst hcl
   clear hc
   obtain ⟨n0, vv, has⟩ := c
   dsimp only at hst hcl
   have HT1 := κ (fun wx => trim_c (bs n0) (by rw [size_bs]; omega) wx)
   have HT2 := κ (fun wx => trim_c (bs vv) (by rw [size_bs]; omega) wx)
   have ht1 := trim_le n0
   have ht2 := trim_le vv
   rw [us_bs] at HT1 HT2
   unfold fieldOf at hst
   obtain ⟨nm, hnm⟩ : ∃ nm, nm = trim n0 := ⟨_, rfl⟩
   obtain ⟨va, hva⟩ : ∃ va, va = trim vv := ⟨_, rfl⟩
   rw [← hnm] at HT1 hst ht1
   rw [← hva] at HT2 hst ht2
   clear hnm hva
   have HP := κ (fun wx => prefix_c (bs va) 34 wx)
   rw [us_bs] at HP
   have HMr := κ hmr
   have HO := κ hown
   have HB := κ hB
   clear hmr hown hB
   cases hq : opens 34 va with
   | true =>
    rw [hq] at hst HP
    rw [if_pos rfl] at hst
    clear hq
    have HU := κ (fun wx => unquote_c (bs va) (by rw [size_bs]; omega) wx)
    rw [us_bs] at HU
    have hul := unquote_len va
    obtain ⟨qp, hqp⟩ : ∃ qp, qp = unquote va := ⟨_, rfl⟩
    rw [← hqp] at HU hst hul
    clear hqp
    obtain ⟨t, qe⟩ := qp
    dsimp only at HU hst hul
    have HC1 := κ (fun wx hx => bad_c u4 L ⟨nm, t, has⟩ (by dsimp only; omega) (by dsimp only; omega) wx hx (fun p hp => by have := HBL.out p hp; omega))
    unfold pv sv at HC1
    dsimp only at HC1
    cases hqe : (qe != 0) with
    | true =>
     rw [if_neg (by simpa using hqe)] at hst
     have HN := κ (HFB.out hst)
     clear hst
     go_wp2_with (first | (go_at_call 47; refine (HCT.out).mono ?_; rintro e w1 ⟨rfl, hD⟩; have ho1 := HO.out.below (hD.below (B := wr.heap.size)) (ρ _); have hb1' := HB.out.trans (hD.below (B := w.heap.size))) | (go_at_call 50; (first | ((with_reducible refine (HT1.out _).mono ?_); rintro e wx ⟨rfl, rfl⟩) | ((with_reducible refine (HT2.out _).mono ?_); rintro e wx ⟨rfl, rfl⟩))) | (go_at_call 104; refine (HP.out _).mono ?_; rintro e wx ⟨rfl, rfl⟩) | (go_at_call 105; refine (HU.out _).mono ?_; rintro e w2 ⟨rfl, hC⟩; have hf := box3f hC; obtain ⟨r0, r1, r2, hz1, hB1⟩ := box3 hC; clear hC; have hb2 := hb1'.trans (hB1.mono hb1'.size)))
     go_ret2
     exact ⟨_, by rw [HN.out]; rfl, .inl ⟨⟨_, _, rfl⟩, by rw [HN.out]⟩, Fresh.nil _ _ _, hb2⟩
    | false =>
     rw [if_pos (by simpa using hqe)] at hst
     cases has with
     | true =>
      unfold chk at hst
      cases hmay : mayS L ⟨nm, t, true⟩ with
      | false =>
       rw [hmay, if_neg (by decide)] at hst
       have HN := κ (HFB.out hst)
       rw [hmay] at HC1
       clear hst hmay
       go_wp2_with (first | (go_at_call 47; refine (HCT.out).mono ?_; rintro e w1 ⟨rfl, hD⟩; have ho1 := HO.out.below (hD.below (B := wr.heap.size)) (ρ _); have hb1' := HB.out.trans (hD.below (B := w.heap.size))) | (go_at_call 50; (first | ((with_reducible refine (HT1.out _).mono ?_); rintro e wx ⟨rfl, rfl⟩) | ((with_reducible refine (HT2.out _).mono ?_); rintro e wx ⟨rfl, rfl⟩))) | (go_at_call 104; refine (HP.out _).mono ?_; rintro e wx ⟨rfl, rfl⟩) | (go_at_call 105; refine (HU.out _).mono ?_; rintro e w2 ⟨rfl, hC⟩; have hf := box3f hC; obtain ⟨r0, r1, r2, hz1, hB1⟩ := box3 hC; clear hC; have hb2 := hb1'.trans (hB1.mono hb1'.size)) | (go_at_call 115; refine (HC1.out _ (ho1.read.below (hB1.setCell (ρ _) _) (ρ _))).mono ?_; rintro e w3 ⟨rfl, hC2⟩; obtain ⟨r0', r1', r2', hz2, hB2⟩ := box3s r0 r1 r2 hz1 hC2; have hB3 := hB1.trans hB2; have ho3 := ho1.below hB3 (ρ _); have hb3 := hb1'.trans (hB3.mono hb1'.size); clear hC2))
       go_ret2
       exact ⟨_, by rw [HN.out]; rfl, .inl ⟨⟨_, _, rfl⟩, by rw [HN.out]⟩, Fresh.nil _ _ _, hb3⟩
      | true =>
       rw [hmay, if_pos rfl] at hst
       have HS := κ (show fieldsGo [] Ps = fieldsGo (L ++ [⟨nm, t, true⟩]) (Ps.drop (k + 1)) from hst)
       have HLN := κ (mayS_len hmay).1
       rw [hmay] at HC1
       clear hst hmay
       go_wp2_with (first | (go_at_call 47; refine (HCT.out).mono ?_; rintro e w1 ⟨rfl, hD⟩; have ho1 := HO.out.below (hD.below (B := wr.heap.size)) (ρ _); have hb1' := HB.out.trans (hD.below (B := w.heap.size))) | (go_at_call 50; (first | ((with_reducible refine (HT1.out _).mono ?_); rintro e wx ⟨rfl, rfl⟩) | ((with_reducible refine (HT2.out _).mono ?_); rintro e wx ⟨rfl, rfl⟩))) | (go_at_call 104; refine (HP.out _).mono ?_; rintro e wx ⟨rfl, rfl⟩) | (go_at_call 105; refine (HU.out _).mono ?_; rintro e w2 ⟨rfl, hC⟩; have hf := box3f hC; obtain ⟨r0, r1, r2, hz1, hB1⟩ := box3 hC; clear hC; have hb2 := hb1'.trans (hB1.mono hb1'.size)) | (go_at_call 115; refine (HC1.out _ (ho1.read.below (hB1.setCell (ρ _) _) (ρ _))).mono ?_; rintro e w3 ⟨rfl, hC2⟩; obtain ⟨r0', r1', r2', hz2, hB2⟩ := box3s r0 r1 r2 hz1 hC2; have hB3 := hB1.trans hB2; have ho3 := ho1.below hB3 (ρ _); have hb3 := hb1'.trans (hB3.mono hb1'.size); clear hC2) | (at_builtin; refine wpList_appP1 ⟨nm, t, true⟩ (us_bs _) (us_bs _) rfl rfl rfl Tryz.underlying22 infoP rfl rfl ho3 hb3 (ρ _) ?_ ?_; (focus omega); intro v4 w4 ho4 hb4))
       go_roundw
       case rel => exact ⟨k + 1, L ++ [⟨nm, t, true⟩], by omega, by go_num, ho4, by rw [List.length_append]; exact Nat.succ_le_succ hl, fun p hp => by
          rcases List.mem_append.1 hp with h | h
          ·exact HBL.out p h
          ·rw [List.mem_singleton.1 h]; exact HLN.out, HS.out, hb4⟩
       case measure => simp [intOf]; omega
     | false =>
      unfold chk at hst
      cases hmay : mayS L ⟨nm, t, false⟩ with
      | false =>
       rw [hmay, if_neg (by decide)] at hst
       have HN := κ (HFB.out hst)
       rw [hmay] at HC1
       clear hst hmay
       go_wp2_with (first | (go_at_call 47; refine (HCT.out).mono ?_; rintro e w1 ⟨rfl, hD⟩; have ho1 := HO.out.below (hD.below (B := wr.heap.size)) (ρ _); have hb1' := HB.out.trans (hD.below (B := w.heap.size))) | (go_at_call 50; (first | ((with_reducible refine (HT1.out _).mono ?_); rintro e wx ⟨rfl, rfl⟩) | ((with_reducible refine (HT2.out _).mono ?_); rintro e wx ⟨rfl, rfl⟩))) | (go_at_call 104; refine (HP.out _).mono ?_; rintro e wx ⟨rfl, rfl⟩) | (go_at_call 105; refine (HU.out _).mono ?_; rintro e w2 ⟨rfl, hC⟩; have hf := box3f hC; obtain ⟨r0, r1, r2, hz1, hB1⟩ := box3 hC; clear hC; have hb2 := hb1'.trans (hB1.mono hb1'.size)) | (go_at_call 115; refine (HC1.out _ (ho1.read.below (hB1.setCell (ρ _) _) (ρ _))).mono ?_; rintro e w3 ⟨rfl, hC2⟩; obtain ⟨r0', r1', r2', hz2, hB2⟩ := box3s r0 r1 r2 hz1 hC2; have hB3 := hB1.trans hB2; have ho3 := ho1.below hB3 (ρ _); have hb3 := hb1'.trans (hB3.mono hb1'.size); clear hC2))
       go_ret2
       exact ⟨_, by rw [HN.out]; rfl, .inl ⟨⟨_, _, rfl⟩, by rw [HN.out]⟩, Fresh.nil _ _ _, hb3⟩
      | true =>
       rw [hmay, if_pos rfl] at hst
       have HS := κ (show fieldsGo [] Ps = fieldsGo (L ++ [⟨nm, t, false⟩]) (Ps.drop (k + 1)) from hst)
       have HLN := κ (mayS_len hmay).1
       rw [hmay] at HC1
       clear hst hmay
       go_wp2_with (first | (go_at_call 47; refine (HCT.out).mono ?_; rintro e w1 ⟨rfl, hD⟩; have ho1 := HO.out.below (hD.below (B := wr.heap.size)) (ρ _); have hb1' := HB.out.trans (hD.below (B := w.heap.size))) | (go_at_call 50; (first | ((with_reducible refine (HT1.out _).mono ?_); rintro e wx ⟨rfl, rfl⟩) | ((with_reducible refine (HT2.out _).mono ?_); rintro e wx ⟨rfl, rfl⟩))) | (go_at_call 104; refine (HP.out _).mono ?_; rintro e wx ⟨rfl, rfl⟩) | (go_at_call 105; refine (HU.out _).mono ?_; rintro e w2 ⟨rfl, hC⟩; have hf := box3f hC; obtain ⟨r0, r1, r2, hz1, hB1⟩ := box3 hC; clear hC; have hb2 := hb1'.trans (hB1.mono hb1'.size)) | (go_at_call 115; refine (HC1.out _ (ho1.read.below (hB1.setCell (ρ _) _) (ρ _))).mono ?_; rintro e w3 ⟨rfl, hC2⟩; obtain ⟨r0', r1', r2', hz2, hB2⟩ := box3s r0 r1 r2 hz1 hC2; have hB3 := hB1.trans hB2; have ho3 := ho1.below hB3 (ρ _); have hb3 := hb1'.trans (hB3.mono hb1'.size); clear hC2) | (at_builtin; refine wpList_appP1 ⟨nm, t, false⟩ (us_bs _) (us_bs _) rfl rfl rfl Tryz.underlying22 infoP rfl rfl ho3 hb3 (ρ _) ?_ ?_; (focus omega); intro v4 w4 ho4 hb4))
       go_roundw
       case rel => exact ⟨k + 1, L ++ [⟨nm, t, false⟩], by omega, by go_num, ho4, by rw [List.length_append]; exact Nat.succ_le_succ hl, fun p hp => by
          rcases List.mem_append.1 hp with h | h
          ·exact HBL.out p h
          ·rw [List.mem_singleton.1 h]; exact HLN.out, HS.out, hb4⟩
       case measure => simp [intOf]; omega
   | false =>
    rw [hq] at hst HP
    rw [if_neg (by decide)] at hst
    clear hq
    have HC1 := κ (fun wx hx => bad_c u4 L ⟨nm, va, has⟩ (by dsimp only; omega) (by dsimp only; omega) wx hx (fun p hp => by have := HBL.out p hp; omega))
    unfold pv sv at HC1
    dsimp only at HC1
    cases has with
    | false =>
     rw [if_neg (fun h => by cases h.1)] at hst
     unfold chk at hst
     cases hmay : mayS L ⟨nm, va, false⟩ with
     | false =>
      rw [hmay, if_neg (by decide)] at hst
      have HN := κ (HFB.out hst)
      rw [hmay] at HC1
      clear hst hmay
      go_wp2_with (first | (go_at_call 47; refine (HCT.out).mono ?_; rintro e w1 ⟨rfl, hD⟩; have ho1 := HO.out.below (hD.below (B := wr.heap.size)) (ρ _); have hb1' := HB.out.trans (hD.below (B := w.heap.size))) | (go_at_call 50; (first | ((with_reducible refine (HT1.out _).mono ?_); rintro e wx ⟨rfl, rfl⟩) | ((with_reducible refine (HT2.out _).mono ?_); rintro e wx ⟨rfl, rfl⟩))) | (go_at_call 104; refine (HP.out _).mono ?_; rintro e wx ⟨rfl, rfl⟩) | (go_at_call 115; refine (HC1.out _ (ho1.read.below ((Below.refl _ _).alloc (ρ _) _) (ρ _))).mono ?_; rintro e w3 ⟨rfl, hC⟩; obtain ⟨r0, r1, r2, hz1, hB1⟩ := box3 hC; clear hC; have ho3 := ho1.below hB1 (ρ _); have hb3 := hb1'.trans (hB1.mono hb1'.size)))
      go_ret2
      exact ⟨_, by rw [HN.out]; rfl, .inl ⟨⟨_, _, rfl⟩, by rw [HN.out]⟩, Fresh.nil _ _ _, hb3⟩
     | true =>
      rw [hmay, if_pos rfl] at hst
      have HS := κ (show fieldsGo [] Ps = fieldsGo (L ++ [⟨nm, va, false⟩]) (Ps.drop (k + 1)) from hst)
      have HLN := κ (mayS_len hmay).1
      rw [hmay] at HC1
      clear hst hmay
      go_wp2_with (first | (go_at_call 47; refine (HCT.out).mono ?_; rintro e w1 ⟨rfl, hD⟩; have ho1 := HO.out.below (hD.below (B := wr.heap.size)) (ρ _); have hb1' := HB.out.trans (hD.below (B := w.heap.size))) | (go_at_call 50; (first | ((with_reducible refine (HT1.out _).mono ?_); rintro e wx ⟨rfl, rfl⟩) | ((with_reducible refine (HT2.out _).mono ?_); rintro e wx ⟨rfl, rfl⟩))) | (go_at_call 104; refine (HP.out _).mono ?_; rintro e wx ⟨rfl, rfl⟩) | (go_at_call 115; refine (HC1.out _ (ho1.read.below ((Below.refl _ _).alloc (ρ _) _) (ρ _))).mono ?_; rintro e w3 ⟨rfl, hC⟩; obtain ⟨r0, r1, r2, hz1, hB1⟩ := box3 hC; clear hC; have ho3 := ho1.below hB1 (ρ _); have hb3 := hb1'.trans (hB1.mono hb1'.size)) | (at_builtin; refine wpList_appP1 ⟨nm, va, false⟩ (us_bs _) (us_bs _) rfl rfl rfl Tryz.underlying22 infoP rfl rfl ho3 hb3 (ρ _) ?_ ?_; (focus omega); intro v4 w4 ho4 hb4))
      go_roundw
      case rel => exact ⟨k + 1, L ++ [⟨nm, va, false⟩], by omega, by go_num, ho4, by rw [List.length_append]; exact Nat.succ_le_succ hl, fun p hp => by
         rcases List.mem_append.1 hp with h | h
         ·exact HBL.out p h
         ·rw [List.mem_singleton.1 h]; exact HLN.out, HS.out, hb4⟩
      case measure => simp [intOf]; omega
    | true =>
     have HWD := κ (fun wx hx => word_c (bs va) (by rw [size_bs]; omega) wx hx)
     rw [us_bs] at HWD
     cases hwd : wordS va with
     | false =>
      rw [if_pos ⟨rfl, hwd⟩] at hst
      rw [hwd] at HWD
      have HN := κ (HFB.out hst)
      clear hst hwd
      go_wp2_with (first | (go_at_call 47; refine (HCT.out).mono ?_; rintro e w1 ⟨rfl, hD⟩; have ho1 := HO.out.below (hD.below (B := wr.heap.size)) (ρ _); have hb1' := HB.out.trans (hD.below (B := w.heap.size))) | (go_at_call 50; (first | ((with_reducible refine (HT1.out _).mono ?_); rintro e wx ⟨rfl, rfl⟩) | ((with_reducible refine (HT2.out _).mono ?_); rintro e wx ⟨rfl, rfl⟩))) | (go_at_call 104; refine (HP.out _).mono ?_; rintro e wx ⟨rfl, rfl⟩) | (go_at_call 114; refine (HWD.out _ (HM.out.below (hb1'.alloc hb1'.size _))).mono ?_; rintro e w2 ⟨rfl, hC⟩; obtain ⟨r0, r1, r2, hz1, hB1⟩ := box3 hC; clear hC; have ho2 := ho1.below hB1 (ρ _); have hb2 := hb1'.trans (hB1.mono hb1'.size)))
      go_ret2
      exact ⟨_, by rw [HN.out]; rfl, .inl ⟨⟨_, _, rfl⟩, by rw [HN.out]⟩, Fresh.nil _ _ _, hb2⟩
     | true =>
      rw [if_neg (fun h => by rw [hwd] at h; cases h.2)] at hst
      rw [hwd] at HWD
      clear hwd
      unfold chk at hst
      cases hmay : mayS L ⟨nm, va, true⟩ with
      | false =>
       rw [hmay, if_neg (by decide)] at hst
       have HN := κ (HFB.out hst)
       rw [hmay] at HC1
       clear hst hmay
       go_wp2_with (first | (go_at_call 47; refine (HCT.out).mono ?_; rintro e w1 ⟨rfl, hD⟩; have ho1 := HO.out.below (hD.below (B := wr.heap.size)) (ρ _); have hb1' := HB.out.trans (hD.below (B := w.heap.size))) | (go_at_call 50; (first | ((with_reducible refine (HT1.out _).mono ?_); rintro e wx ⟨rfl, rfl⟩) | ((with_reducible refine (HT2.out _).mono ?_); rintro e wx ⟨rfl, rfl⟩))) | (go_at_call 104; refine (HP.out _).mono ?_; rintro e wx ⟨rfl, rfl⟩) | (go_at_call 114; refine (HWD.out _ (HM.out.below (hb1'.alloc hb1'.size _))).mono ?_; rintro e w2 ⟨rfl, hC⟩; obtain ⟨r0, r1, r2, hz1, hB1⟩ := box3 hC; clear hC; have ho2 := ho1.below hB1 (ρ _); have hb2 := hb1'.trans (hB1.mono hb1'.size)) | (go_at_call 115; refine (HC1.out _ ho2.read).mono ?_; rintro e w3 ⟨rfl, hC2⟩; obtain ⟨r0', r1', r2', hz2⟩ := box3n r0 r1 r2 hz1 hC2; have ho3 := ho2.below hC2 (ρ _); have hb3 := hb2.trans (hC2.mono hb2.size); clear hC2))
       go_ret2
       exact ⟨_, by rw [HN.out]; rfl, .inl ⟨⟨_, _, rfl⟩, by rw [HN.out]⟩, Fresh.nil _ _ _, hb3⟩
      | true =>
       rw [hmay, if_pos rfl] at hst
       have HS := κ (show fieldsGo [] Ps = fieldsGo (L ++ [⟨nm, va, true⟩]) (Ps.drop (k + 1)) from hst)
       have HLN := κ (mayS_len hmay).1
       rw [hmay] at HC1
       clear hst hmay
       go_wp2_with (first | (go_at_call 47; refine (HCT.out).mono ?_; rintro e w1 ⟨rfl, hD⟩; have ho1 := HO.out.below (hD.below (B := wr.heap.size)) (ρ _); have hb1' := HB.out.trans (hD.below (B := w.heap.size))) | (go_at_call 50; (first | ((with_reducible refine (HT1.out _).mono ?_); rintro e wx ⟨rfl, rfl⟩) | ((with_reducible refine (HT2.out _).mono ?_); rintro e wx ⟨rfl, rfl⟩))) | (go_at_call 104; refine (HP.out _).mono ?_; rintro e wx ⟨rfl, rfl⟩) | (go_at_call 114; refine (HWD.out _ (HM.out.below (hb1'.alloc hb1'.size _))).mono ?_; rintro e w2 ⟨rfl, hC⟩; obtain ⟨r0, r1, r2, hz1, hB1⟩ := box3 hC; clear hC; have ho2 := ho1.below hB1 (ρ _); have hb2 := hb1'.trans (hB1.mono hb1'.size)) | (go_at_call 115; refine (HC1.out _ ho2.read).mono ?_; rintro e w3 ⟨rfl, hC2⟩; obtain ⟨r0', r1', r2', hz2⟩ := box3n r0 r1 r2 hz1 hC2; have ho3 := ho2.below hC2 (ρ _); have hb3 := hb2.trans (hC2.mono hb2.size); clear hC2) | (at_builtin; refine wpList_appP1 ⟨nm, va, true⟩ (us_bs _) (us_bs _) rfl rfl rfl Tryz.underlying22 infoP rfl rfl ho3 hb3 (ρ _) ?_ ?_; (focus omega); intro v4 w4 ho4 hb4))
       go_roundw
       case rel => exact ⟨k + 1, L ++ [⟨nm, va, true⟩], by omega, by go_num, ho4, by rw [List.length_append]; exact Nat.succ_le_succ hl, fun p hp => by
         rcases List.mem_append.1 hp with h | h
         ·exact HBL.out p h
         ·rw [List.mem_singleton.1 h]; exact HLN.out, HS.out, hb4⟩
       case measure => simp [intOf]; omega
  ·obtain rfl : k = Ps.length := by omega
   have HE := κ (HFE.out L hp)
   clear hp
   go_wp2
   go_ret2
   exact ⟨_, by rw [HE.out]; rfl, by rw [HE.out]; exact hown.read, hown.fresh, hB⟩
end
section
open Go.RowKit
def ptext (p : Prm) : List UInt8 := 59 :: (p.name ++ (if p.has = true then 61 :: (if wordS p.value = true then p.value else (quote p.value).1) else []))
def textGo : List Prm → List Prm → Option (List UInt8)
 | _, [] => some []
 | done, p :: r => if mayS done p = true then (textGo (done ++ [p]) r).map (ptext p ++ ·) else none
def textS (L : List Prm) : List UInt8 × Int := if 16 < L.length then ([], 4) else okOr 34 (textGo [] L)
theorem RPrms.take {w : World} {ao : Option Addr} {n cap k : Nat} {L : List Prm} (h : RPrms w (.slice ao n cap) L) (hk : k ≤ L.length) : RPrms w (.slice ao k cap) (L.take k) := by
 have hlen : (L.take k).length = k := by rw [List.length_take]; omega
 rcases h with ⟨_, rfl⟩ | ⟨b, off, cap', h1, h2, h2', h3, h4⟩
 ·have : k = 0 := by simpa using hk
  subst this
  exact .inl ⟨⟨_, _, rfl⟩, rfl⟩
 ·injection h1 with e1 e2 e3
  subst e1 e3
  refine .inr ⟨b, off, cap, by rw [hlen], by rw [hlen]; omega, h2', h3, fun j hj => ?_⟩
  have hj' : j < L.length := by rw [hlen] at hj; omega
  have := h4 j hj'
  rw [List.getElem_take]; exact this
theorem RPrms.len {w : World} {ao : Option Addr} {n cap : Nat} {L : List Prm} (h : RPrms w (.slice ao n cap) L) (h0 : 0 < L.length) : n = L.length ∧ L.length ≤ cap := by
 rcases h with ⟨_, rfl⟩ | ⟨b, off, cap', h1, h2, _⟩
 ·simp at h0
 ·injection h1 with _ e2 e3
  subst e3
  exact ⟨e2, h2⟩
end
def isDig (c : UInt8) : Bool := decide (48 ≤ c.toNat) && decide (c.toNat ≤ 57)
theorem isDig_iff (c : UInt8) : isDig c = true ↔ 48 ≤ c.toNat ∧ c.toNat ≤ 57 := by simp [isDig]
theorem testc_dig (c : UInt8) : testc 1 c = isDig c :=
 all_bytes (fun c => testc 1 c = isDig c) (by decide +kernel) c
theorem allc_dig (l : List UInt8) : allc 1 l = l.all isDig := by
 unfold allc
 rw [show testc 1 = isDig from funext testc_dig]
def valF : List UInt8 → Int → Int
 | [], n => n
 | c :: r, n => valF r (10 * n + ((c.toNat : Int) - 48))
theorem valF_ge : ∀ (l : List UInt8) (n : Int), l.all isDig = true → 0 ≤ n → n ≤ valF l n
 | [], n, _, _ => Int.le_refl _
 | c :: r, n, h, h0 => by
  rw [List.all_cons, Bool.and_eq_true, isDig_iff] at h
  have := valF_ge r (10 * n + ((c.toNat : Int) - 48)) h.2 (by omega)
  rw [valF]; omega
theorem numGo_val (most : Int) : ∀ (l : List UInt8) (n : Int), l.all isDig = true → 0 ≤ n → n ≤ most → numGo most l n = if valF l n ≤ most then (valF l n, 0) else (0, 9)
 | [], n, _, _, hn => by rw [numGo, valF, if_pos hn]
 | c :: r, n, h, h0, hn => by
  rw [List.all_cons, Bool.and_eq_true, isDig_iff] at h
  rw [numGo, valF]
  by_cases hm : 10 * n + ((c.toNat : Int) - 48) ≤ most
  ·rw [if_neg (by omega)]
   exact numGo_val most r _ h.2 (by omega) hm
  ·rw [if_pos (by omega)]
   have := valF_ge r (10 * n + ((c.toNat : Int) - 48)) h.2 (by omega)
   rw [if_neg (by omega)]
theorem number_val (most : Int) (h0 : 0 ≤ most) (l : List UInt8) (hl : l ≠ []) (h : l.all isDig = true) : number l most = if valF l 0 ≤ most then (valF l 0, 0) else (0, 9) := by
 unfold number
 rw [if_neg, numGo_val most l 0 h (Int.le_refl _) h0]
 rintro (h' | h')
 ·exact hl h'
 ·rw [allc_dig, h] at h'; cases h'
end Go.Proofs.YtipdiddjhimdcaaGreatDoor
