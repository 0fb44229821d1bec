/-
  Parameters (name, value, has) as rows of three cells; rosterref04.Place.
  rosterref04.Place.
  rosterref04.Value.
  same.find, same.Value.
  A block of memory that is known whole, and what a call keeps of it.
  rosterref03.Lists.
-/
import Derived.Test.YtjpmfcipjaeemaaGreatDoorUri
import Derived.Laws.StructEq
namespace Go.Proofs.YtjpmfcipjaeemaaGreatDoor

section
open Go.RowKit

structure Prm where
  name : List UInt8
  value : List UInt8
  has : Bool
deriving DecidableEq
def Prm.cells (p : Prm) : List Value := [sv p.name, sv p.value, .bool p.has]
/-- a slice of parameters that reads as L -/
def RPrms (w : World) (v : Value) (L : List Prm) : Prop :=
  ((∃ ao cap, v = .slice ao 0 cap) ∧ L = []) ∨
  ∃ b off cap, v = .slice (some ⟨b, off, none⟩) L.length cap ∧ L.length ≤ cap ∧ cap ≤ maxLen ∧ b < w.heap.size ∧
    ∀ j (hj : j < L.length), w.cell? ⟨b, off + j * 3, none⟩ = some (sv L[j].name) ∧ w.cell? ⟨b, off + j * 3 + 1, none⟩ = some (sv L[j].value) ∧ w.cell? ⟨b, off + j * 3 + 2, none⟩ = some (.bool L[j].has)
theorem RPrms.below {w w' : World} {B : Nat} {v : Value} {L : List Prm} (h : RPrms w v L) (hB : Below B w w') (hs : w.heap.size ≤ B) : RPrms w' v L := by
  rcases h with h | ⟨b, off, cap, h1, h2, h2', h3, h4⟩
  · exact .inl h
  · refine .inr ⟨b, off, cap, h1, h2, h2', Nat.lt_of_lt_of_le h3 hB.size, fun j hj => ?_⟩
    rw [hB.cell (p := ⟨b, off + j * 3, none⟩) (by show b < B; omega), hB.cell (p := ⟨b, off + j * 3 + 1, none⟩) (by show b < B; omega), hB.cell (p := ⟨b, off + j * 3 + 2, none⟩) (by show b < B; omega)]
    exact h4 j hj
theorem RPrms.form {w : World} {v : Value} {L : List Prm} (h : RPrms w v L) : ∃ ao cap, v = .slice ao L.length cap ∧ L.length ≤ maxLen ∧
    (0 < L.length → ∃ b off, ao = some ⟨b, off, none⟩ ∧ b < w.heap.size ∧ ∀ j (hj : j < L.length), w.cell? ⟨b, off + j * 3, none⟩ = some (sv L[j].name) ∧ w.cell? ⟨b, off + j * 3 + 1, none⟩ = some (sv L[j].value) ∧ w.cell? ⟨b, off + j * 3 + 2, none⟩ = some (.bool L[j].has)) := by
  rcases h with ⟨⟨ao, cap, rfl⟩, rfl⟩ | ⟨b, off, cap, rfl, h2, h2', h3, h4⟩
  · exact ⟨ao, cap, rfl, Nat.zero_le _, fun h => by simp at h⟩
  · exact ⟨some ⟨b, off, none⟩, cap, rfl, Nat.le_trans h2 h2', fun _ => ⟨b, off, rfl, h3, h4⟩⟩

/-- the place of the first parameter of a name, from place k on; below 0: there is none -/
def placeGo (name : List UInt8) : List Prm → Nat → Int
  | [], _ => -1
  | p :: r, k => if same p.name name then (k : Int) else placeGo name r (k + 1)
def place (L : List Prm) (name : List UInt8) : Int := placeGo name L 0
theorem place_yes (L : List Prm) (name : List UInt8) (k : Nat) (h : k < L.length) (hp : place L name = placeGo name (L.drop k) k) (hs : same L[k].name name = true) : place L name = (k : Int) := by
  rw [hp, List.drop_eq_getElem_cons h, placeGo, if_pos hs]
theorem place_no (L : List Prm) (name : List UInt8) (k : Nat) (h : k < L.length) (hp : place L name = placeGo name (L.drop k) k) (hs : same L[k].name name = false) : place L name = placeGo name (L.drop (k + 1)) (k + 1) := by
  rw [hp, List.drop_eq_getElem_cons h, placeGo, if_neg (by rw [hs]; decide)]
theorem place_end (L : List Prm) (name : List UInt8) (k : Nat) (h : L.length ≤ k) (hp : place L name = placeGo name (L.drop k) k) : place L name = -1 := by
  rw [hp, List.drop_eq_nil_iff.2 h, placeGo]
end

section
open Go.RowKit

set_option maxHeartbeats 800000 in
theorem place_c (v : Value) (L : List Prm) (s : ByteArray) (hs : s.size ≤ 140737488355328) (w : World) (h1 : RPrms w v L) (hb : ∀ p ∈ L, p.name.length ≤ 140737488355328) :
    Calls Tryz.prog 53 #[v, .string s] w fun e w' => e = .returned (.int .i64 (place L (us s))) ∧ Below w.heap.size w w' := by
  obtain ⟨ao, cap, rfl, hm1, c1⟩ := h1.form
  have C1 := Lib.hid c1
  have HBD := Lib.hid hb
  clear c1 h1 hb
  unfold maxLen at hm1
  go_enter Tryz.func53, Tryz.ntmps53
  go_wp2
  go_loopw [5] (fun i wr => ∃ k : Nat, k ≤ L.length ∧ i = .int .i64 k ∧ Below w.heap.size w wr ∧ place L (us s) = placeGo (us s) (L.drop k) k) (fun i _ => L.length - (intOf i).toNat)
  case atStart => exact ⟨0, Nat.zero_le _, rfl, Below.refl _ _, rfl⟩
  case round =>
    obtain ⟨k, hk, rfl, hB, hp⟩ := hrel
    have HP := Lib.hid hp; clear hp
    by_cases hlt : k < L.length
    · obtain ⟨b, off, rfl, hb1, hc1⟩ := C1.out (by omega)
      have x1 : wr.cell? ⟨b, off + k * 3, none⟩ = some (.string (bs L[k].name)) := by
        rw [hB.cell (p := ⟨b, off + k * 3, none⟩) hb1]; exact (hc1 k hlt).1
      have k0 : (0 : Int) ≤ (k : Int) := by omega
      have k1 : (k : Int) < (L.length : Int) := by omega
      clear hc1
      have HS := Lib.hid (fun wx => sameR_c (bs L[k].name) s (by rw [size_bs]; exact HBD.out _ (List.getElem_mem hlt)) hs wx)
      rw [us_bs] at HS
      have HB := Lib.hid hB
      cases hq : same L[k].name (us s) with
      | true =>
        have HY := Lib.hid (place_yes L (us s) k hlt HP.out hq)
        rw [hq] at HS; clear hq
        go_wp2_with (go_at_call 79; refine (HS.out _).mono ?_; rintro e wx ⟨rfl, hC⟩)
        go_ret
        exact ⟨ret_int HY.out.symm, HB.out.trans (hC.mono HB.out.size)⟩
      | false =>
        have HY := Lib.hid (place_no L (us s) k hlt HP.out hq)
        rw [hq] at HS; clear hq
        go_wp2_with (go_at_call 79; refine (HS.out _).mono ?_; rintro e wx ⟨rfl, hC⟩)
        go_roundw
        case rel => exact ⟨k + 1, by omega, by go_num, HB.out.trans (hC.mono HB.out.size), HY.out⟩
        case measure => simp [intOf]; omega
    · have HE := Lib.hid (place_end L (us s) k (by omega) HP.out)
      go_wp2
      go_ret
      exact ⟨ret_int HE.out.symm, hB⟩
end

section
open Go.RowKit

/-- a parameter's value, and whether there is such a parameter -/
def valueGo (name : List UInt8) : List Prm → List UInt8 × Bool
  | [] => ([], false)
  | p :: r => if same p.name name then (p.value, true) else valueGo name r
def value (L : List Prm) (name : List UInt8) : List UInt8 × Bool := valueGo name L
theorem place_value (name : List UInt8) : ∀ (L : List Prm) (k : Nat),
    (placeGo name L k = -1 ∧ valueGo name L = ([], false)) ∨ (∃ j, ∃ h : j < L.length, placeGo name L k = ((k + j : Nat) : Int) ∧ valueGo name L = (L[j].value, true))
  | [], k => .inl ⟨rfl, rfl⟩
  | p :: r, k => by
    by_cases h : same p.name name = true
    · exact .inr ⟨0, by simp, by rw [placeGo, if_pos h]; simp, by rw [valueGo, if_pos h]; rfl⟩
    · rcases place_value name r (k + 1) with ⟨h1, h2⟩ | ⟨j, hj, h1, h2⟩
      · exact .inl ⟨by rw [placeGo, if_neg h, h1], by rw [valueGo, if_neg h, h2]⟩
      · refine .inr ⟨j + 1, by simp; omega, ?_, ?_⟩
        · rw [placeGo, if_neg h, h1]; congr 1; omega
        · rw [valueGo, if_neg h, h2]; simp

theorem valueR_c (v : Value) (L : List Prm) (s : ByteArray) (hs : s.size ≤ 140737488355328) (w : World) (h1 : RPrms w v L) (hb : ∀ p ∈ L, p.name.length ≤ 140737488355328) :
    Calls Tryz.prog 21 #[v, .string s] w fun e w' => e = .returned (.tuple #[.string (bs (value L (us s)).1), .bool (value L (us s)).2]) ∧ Below w.heap.size w w' := by
  have HP := Lib.hid (place_c v L s hs w h1 hb)
  obtain ⟨ao, cap, rfl, hm1, c1⟩ := h1.form
  have C1 := Lib.hid c1
  clear c1 h1 hb
  unfold maxLen at hm1
  rcases place_value (us s) L 0 with ⟨e1, e2⟩ | ⟨j, hj, e1, e2⟩
  · have HV := Lib.hid (show value L (us s) = ([], false) from e2)
    rw [show place L (us s) = -1 from e1] at HP
    clear e1 e2
    go_enter Tryz.func21, Tryz.ntmps21
    go_wp2_with (go_at_call 53; refine (HP.out).mono ?_; rintro e w1 ⟨rfl, hC⟩)
    go_ret2
    exact ⟨by rw [HV.out]; rfl, hC⟩
  · have HV := Lib.hid (show value L (us s) = (L[j].value, true) from e2)
    rw [show place L (us s) = ((j : Nat) : Int) from by rw [show place L (us s) = _ from e1]; simp] at HP
    clear e1 e2
    obtain ⟨b, off, rfl, hb1, hc1⟩ := C1.out (by omega)
    have k0 : (0 : Int) ≤ (j : Int) := by omega
    have k1 : (j : Int) < (L.length : Int) := by omega
    have X := Lib.hid (fun (w1 : World) (hC : Below w.heap.size w w1) => show w1.cell? ⟨b, off + j * 3 + 1, none⟩ = some (.string (bs L[j].value)) by
      rw [hC.cell (p := ⟨b, off + j * 3 + 1, none⟩) hb1]; exact (hc1 j hj).2.1)
    clear hc1
    go_enter Tryz.func21, Tryz.ntmps21
    go_wp2_with (go_at_call 53; refine (HP.out).mono ?_; rintro e w1 ⟨rfl, hC⟩; have x1 := X.out w1 hC; have HC := Lib.hid hC; clear hC)
    go_ret2
    exact ⟨by rw [HV.out]; rfl, HC.out⟩
end

section
open Go.RowKit

/-- the first parameter of a name; else the empty one -/
def findGo (name : List UInt8) : List Prm → Prm × Bool
  | [] => (⟨[], [], false⟩, false)
  | p :: r => if same p.name name then (p, true) else findGo name r
theorem find_value (name : List UInt8) : ∀ (L : List Prm), valueGo name L = ((findGo name L).1.value, (findGo name L).2)
  | [] => rfl
  | p :: r => by
    by_cases h : same p.name name = true
    · rw [valueGo, findGo, if_pos h, if_pos h]
    · rw [valueGo, findGo, if_neg h, if_neg h]; exact find_value name r
theorem find_yes (L : List Prm) (name : List UInt8) (k : Nat) (h : k < L.length) (hp : findGo name L = findGo name (L.drop k)) (hs : same L[k].name name = true) : findGo name L = (L[k], true) := by
  rw [hp, List.drop_eq_getElem_cons h, findGo, if_pos hs]
theorem find_no (L : List Prm) (name : List UInt8) (k : Nat) (h : k < L.length) (hp : findGo name L = findGo name (L.drop k)) (hs : same L[k].name name = false) : findGo name L = findGo name (L.drop (k + 1)) := by
  rw [hp, List.drop_eq_getElem_cons h, findGo, if_neg (by rw [hs]; decide)]
theorem find_end (L : List Prm) (name : List UInt8) (k : Nat) (h : L.length ≤ k) (hp : findGo name L = findGo name (L.drop k)) : findGo name L = (⟨[], [], false⟩, false) := by
  rw [hp, List.drop_eq_nil_iff.2 h, findGo]

def pv (p : Prm) : Value := .agg #[sv p.name, sv p.value, .bool p.has]
/-- a block that a call laid, later on -/
theorem boxedAt {w wr : World} {cs : Array Value} {t : TypeId} (hB : Below (w.heap.size + 1) (w.alloc (.cells cs t)) wr) : wr.heap[w.heap.size]? = some (.cells cs t (0, 0)) :=
  (hB.block w.heap.size (by omega)).trans (heap_alloc_new w _)
theorem boxedCell {w : World} {g : Nat} {cs : Array Value} {t : TypeId} (h : w.heap[g]? = some (.cells cs t (0, 0))) (i : Nat) : w.cell? ⟨g, i, none⟩ = cs[i]? := cell_of_row w g i cs t (0, 0) h
theorem boxedFree {w : World} {g : Nat} {cs : Array Value} {t : TypeId} (h : w.heap[g]? = some (.cells cs t (0, 0))) (i : Nat) : w.frozen? ⟨g, i, none⟩ = false := by simp [World.frozen?, h]
theorem boxed {w wr : World} {a b c : Value} {t : TypeId} (hB : Below (w.heap.size + 1) (w.alloc (.cells #[a, b, c] t)) wr) :
    wr.cell? ⟨w.heap.size, 0, none⟩ = some a ∧ wr.cell? ⟨w.heap.size, 1, none⟩ = some b ∧ wr.cell? ⟨w.heap.size, 2, none⟩ = some c ∧
    wr.frozen? ⟨w.heap.size, 0, none⟩ = false ∧ wr.frozen? ⟨w.heap.size, 1, none⟩ = false ∧ wr.frozen? ⟨w.heap.size, 2, none⟩ = false :=
  have h := boxedAt hB
  ⟨boxedCell h 0, boxedCell h 1, boxedCell h 2, boxedFree h 0, boxedFree h 1, boxedFree h 2⟩
set_option maxHeartbeats 1600000 in
theorem find_c (v : Value) (L : List Prm) (s : ByteArray) (hs : s.size ≤ 140737488355328) (w : World) (h1 : RPrms w v L) (hb : ∀ p ∈ L, p.name.length ≤ 140737488355328) :
    Calls Tryz.prog 52 #[v, .string s] w fun e w' => e = .returned (.tuple #[pv (findGo (us s) L).1, .bool (findGo (us s) L).2]) ∧ Below w.heap.size w w' := by
  obtain ⟨ao, cap, rfl, hm1, c1⟩ := h1.form
  have C1 := Lib.hid c1
  have HBD := Lib.hid hb
  clear c1 h1 hb
  unfold maxLen at hm1
  go_enter Tryz.func52, Tryz.ntmps52
  go_wp2
  have z0 : (w.alloc (.cells #[.string ⟨#[]⟩, .string ⟨#[]⟩, .bool false] 73)).heap.size = w.heap.size + 1 := World.size_alloc _ _
  have rc := Lib.hid (fun (wr : World) (hB : Below (w.heap.size + 1) (w.alloc (.cells #[.string ⟨#[]⟩, .string ⟨#[]⟩, .bool false] 73)) wr) => boxed hB)
  obtain ⟨w0, hw0⟩ : ∃ w0 : World, w0 = w.alloc (.cells #[.string ⟨#[]⟩, .string ⟨#[]⟩, .bool false] 73) := ⟨_, rfl⟩
  have hBw : Below w.heap.size w w0 := by rw [hw0]; exact (Below.refl _ _).alloc (Nat.le_refl _) _
  rw [← hw0] at rc z0
  simp only [← hw0]
  have HW := Lib.hid hw0
  clear hw0
  go_loopw [10] (fun i wr => ∃ k : Nat, k ≤ L.length ∧ i = .int .i64 k ∧ Below (w.heap.size + 1) w0 wr ∧ findGo (us s) L = findGo (us s) (L.drop k)) (fun i _ => L.length - (intOf i).toNat)
  case atStart => exact ⟨0, Nat.zero_le _, rfl, Below.refl _ _, rfl⟩
  case round =>
    obtain ⟨k, hk, rfl, hB, hp⟩ := hrel
    have HP := Lib.hid hp; clear hp
    have hz : w.heap.size < wr.heap.size := by have := hB.size; omega
    have hBr : Below w.heap.size w wr := hBw.trans (hB.mono (by omega))
    obtain ⟨r0, r1, r2, f0, f1, f2⟩ := rc.out wr hB
    by_cases hlt : k < L.length
    · obtain ⟨b, off, rfl, hb1, hc1⟩ := C1.out (by omega)
      have x0 : wr.cell? ⟨b, off + k * 3, none⟩ = some (.string (bs L[k].name)) := by
        rw [hBr.cell (p := ⟨b, off + k * 3, none⟩) hb1]; exact (hc1 k hlt).1
      have x1 : wr.cell? ⟨b, off + k * 3 + 1, none⟩ = some (.string (bs L[k].value)) := by
        rw [hBr.cell (p := ⟨b, off + k * 3 + 1, none⟩) hb1]; exact (hc1 k hlt).2.1
      have x2 : wr.cell? ⟨b, off + k * 3 + 2, none⟩ = some (.bool L[k].has) := by
        rw [hBr.cell (p := ⟨b, off + k * 3 + 2, none⟩) hb1]; exact (hc1 k hlt).2.2
      have k0 : (0 : Int) ≤ (k : Int) := by omega
      have k1 : (k : Int) < (L.length : Int) := by omega
      clear hc1
      have HS := Lib.hid (fun wx => same_c (bs L[k].name) s (by rw [size_bs]; have := HBD.out _ (List.getElem_mem hlt); omega) (by omega) wx)
      rw [us_bs] at HS
      have HBr := Lib.hid hBr
      clear hBr
      cases hq : same L[k].name (us s) with
      | true =>
        have HY := Lib.hid (find_yes L (us s) k hlt HP.out hq)
        rw [hq] at HS; clear hq
        go_wp2_with (go_at_call 80; refine (HS.out _).mono ?_; rintro e wx ⟨rfl, ⟨nd, rfl⟩⟩)
        refine bodyPost_ret (v := .tuple #[pv L[k], .bool true]) (by simp [results, Tryz.results52, go_sem, pv, sv, hz, r0, r1, r2]) rfl ⟨by rw [HY.out], ?_⟩
        exact (((below_drewN (HBr.out.alloc (Nat.le_of_lt hz) _) nd).setCell (Nat.le_refl _) _).setCell (Nat.le_refl _) _).setCell (Nat.le_refl _) _
      | false =>
        have HY := Lib.hid (find_no L (us s) k hlt HP.out hq)
        rw [hq] at HS; clear hq
        go_wp2_with (go_at_call 80; refine (HS.out _).mono ?_; rintro e wx ⟨rfl, ⟨nd, rfl⟩⟩)
        go_roundw
        case rel => exact ⟨k + 1, by omega, by go_num, (below_drewN (hB.alloc (by omega) _) _), HY.out⟩
        case measure => simp [intOf]; omega
    · have HE := Lib.hid (find_end L (us s) k (by omega) HP.out)
      go_wp2
      refine bodyPost_ret (v := .tuple #[.agg #[.string ⟨#[]⟩, .string ⟨#[]⟩, .bool false], .bool false]) (by simp [results, Tryz.results52, go_sem, r0, r1, r2]) rfl ⟨by rw [HE.out]; rfl, ?_⟩
      exact ((hBr.setCell (Nat.le_refl _) _).setCell (Nat.le_refl _) _).setCell (Nat.le_refl _) _

theorem value_c (v : Value) (L : List Prm) (s : ByteArray) (hs : s.size ≤ 140737488355328) (w : World) (h1 : RPrms w v L) (hb : ∀ p ∈ L, p.name.length ≤ 140737488355328) :
    Calls Tryz.prog 20 #[v, .string s] w fun e w' => e = .returned (.tuple #[.string (bs (value L (us s)).1), .bool (value L (us s)).2]) ∧ Below w.heap.size w w' := by
  have HF := Lib.hid (fun wx (hx : RPrms wx v L) => find_c v L s hs wx hx hb)
  have HV := Lib.hid (show value L (us s) = _ from find_value (us s) L)
  have H1 := Lib.hid h1
  clear hb h1
  obtain ⟨p, hp⟩ : ∃ p, p = findGo (us s) L := ⟨_, rfl⟩
  rw [← hp] at HV HF
  clear hp
  unfold pv sv at HF
  go_enter Tryz.func20, Tryz.ntmps20
  go_wp2_with (go_at_call 52; refine (HF.out _ H1.out).mono ?_; rintro e wx ⟨rfl, hC⟩)
  go_ret2
  exact ⟨by rw [HV.out]; rfl, hC.alloc hC.size _⟩
end

section
open Go.RowKit

def Blk (w : World) (g : Nat) (t : TypeId) (cs : Array Value) : Prop := w.heap[g]? = some (.cells cs t (0, 0))
section
variable {w w' : World} {g : Nat} {t : TypeId} {cs : Array Value}
theorem Blk.lt (h : Blk w g t cs) : g < w.heap.size := (Array.getElem?_eq_some_iff.1 h).1
theorem Blk.new (w : World) (t : TypeId) (cs : Array Value) : Blk (w.alloc (.cells cs t)) w.heap.size t cs := heap_alloc_new w _
theorem Blk.below {B : Nat} (h : Blk w g t cs) (hb : Below B w w') (hg : g < B) : Blk w' g t cs := (hb.block g hg).trans h
theorem Blk.call (h : Blk w g t cs) (hb : Below w.heap.size w w') : Blk w' g t cs := h.below hb h.lt
theorem Blk.alloc (h : Blk w g t cs) (o : Obj) : Blk (w.alloc o) g t cs := (Below.heap_alloc w o g h.lt).trans h
theorem Blk.set_ (h : Blk w g t cs) (i : Nat) (u : Value) : Blk (w.setCell ⟨g, i, none⟩ u) g t (cs.setIfInBounds i u) := by
  unfold Blk at h ⊢
  simp [World.setCell, Array.getElem?_modify, h]
theorem Blk.far (h : Blk w g t cs) {p : Addr} (hp : g ≠ p.block) (u : Value) : Blk (w.setCell p u) g t cs := (Below.heap_setCell w p u g hp).trans h
theorem Blk.f2 {a b : Value} (h : Blk w g t #[a, b]) : w.cell? ⟨g, 0, none⟩ = some a ∧ w.cell? ⟨g, 1, none⟩ = some b ∧ w.frozen? ⟨g, 0, none⟩ = false ∧ w.frozen? ⟨g, 1, none⟩ = false ∧ g < w.heap.size :=
  ⟨boxedCell h 0, boxedCell h 1, boxedFree h 0, boxedFree h 1, h.lt⟩
theorem Blk.f3 {a b c : Value} (h : Blk w g t #[a, b, c]) : w.cell? ⟨g, 0, none⟩ = some a ∧ w.cell? ⟨g, 1, none⟩ = some b ∧ w.cell? ⟨g, 2, none⟩ = some c ∧ w.frozen? ⟨g, 0, none⟩ = false ∧ w.frozen? ⟨g, 1, none⟩ = false ∧ w.frozen? ⟨g, 2, none⟩ = false ∧ g < w.heap.size :=
  ⟨boxedCell h 0, boxedCell h 1, boxedCell h 2, boxedFree h 0, boxedFree h 1, boxedFree h 2, h.lt⟩
end
/-- a call behind the laying of a block -/
theorem newCall {w w1 : World} {t : TypeId} {cs : Array Value} (hC : Below (w.alloc (.cells cs t)).heap.size (w.alloc (.cells cs t)) w1) : Blk w1 w.heap.size t cs ∧ Below w.heap.size w w1 ∧ w.heap.size < w1.heap.size := by
  have hs : (w.alloc (.cells cs t)).heap.size = w.heap.size + 1 := World.size_alloc _ _
  rw [hs] at hC
  exact ⟨boxedAt hC, ((Below.refl _ _).alloc (Nat.le_refl _) _).trans (hC.mono (by omega)), by have := hC.size; omega⟩
/-- a call behind a store -/
theorem setCall {w w1 : World} {p : Addr} {x : Value} (hC : Below (w.setCell p x).heap.size (w.setCell p x) w1) {B : Nat} (hp : B ≤ p.block) (hB : B ≤ w.heap.size) : Below B w w1 ∧ w.heap.size ≤ w1.heap.size := by
  have hs : (w.setCell p x).heap.size = w.heap.size := by simp
  rw [hs] at hC
  exact ⟨((Below.refl _ _).setCell hp _).trans (hC.mono hB), hs ▸ hC.size⟩
end

section
open Go.RowKit

theorem prms_drop (L M : List Prm) (k : Nat) (h1 : k < L.length) (h2 : k < M.length) : (L.drop k == M.drop k) = ((L[k] == M[k]) && (L.drop (k + 1) == M.drop (k + 1))) := by
  rw [List.drop_eq_getElem_cons h1, List.drop_eq_getElem_cons h2]; rfl

theorem prm_eq (p q : Prm) : (p == q) = (((bs p.name).toList == (bs q.name).toList) && ((bs p.value).toList == (bs q.value).toList) && (p.has == q.has)) := by
  simp only [toList_us, us_bs]
  obtain ⟨a, b, c⟩ := p
  obtain ⟨a', b', c'⟩ := q
  rw [Bool.eq_iff_iff]
  simp [and_assoc]

end

end Go.Proofs.YtjpmfcipjaeemaaGreatDoor
