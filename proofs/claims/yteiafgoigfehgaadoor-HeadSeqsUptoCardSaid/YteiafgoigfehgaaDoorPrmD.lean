/-
  same.find, same.Value.
-/
import Derived.Test.YteiafgoigfehgaaDoorPrmC
namespace Go.Proofs.YteiafgoigfehgaaDoor
open Go.RowKit

/-- the first parameter of a name; else the empty one -/
def findGo (name : List UInt8) : List Prm → Prm × Bool
  | [] => (⟨[], [], false⟩, false)
  | p :: r => if same p.name name then (p, true) else findGo name r
theorem find_value (name : List UInt8) : ∀ (L : List Prm), valueGo name L = ((findGo name L).1.value, (findGo name L).2)
  | [] => rfl
  | p :: r => by
    by_cases h : same p.name name = true
    · rw [valueGo, findGo, if_pos h, if_pos h]
    · rw [valueGo, findGo, if_neg h, if_neg h]; exact find_value name r
theorem find_yes (L : List Prm) (name : List UInt8) (k : Nat) (h : k < L.length) (hp : findGo name L = findGo name (L.drop k)) (hs : same L[k].name name = true) : findGo name L = (L[k], true) := by
  rw [hp, List.drop_eq_getElem_cons h, findGo, if_pos hs]
theorem find_no (L : List Prm) (name : List UInt8) (k : Nat) (h : k < L.length) (hp : findGo name L = findGo name (L.drop k)) (hs : same L[k].name name = false) : findGo name L = findGo name (L.drop (k + 1)) := by
  rw [hp, List.drop_eq_getElem_cons h, findGo, if_neg (by rw [hs]; decide)]
theorem find_end (L : List Prm) (name : List UInt8) (k : Nat) (h : L.length ≤ k) (hp : findGo name L = findGo name (L.drop k)) : findGo name L = (⟨[], [], false⟩, false) := by
  rw [hp, List.drop_eq_nil_iff.2 h, findGo]

def pv (p : Prm) : Value := .agg #[sv p.name, sv p.value, .bool p.has]
/-- a block that a call laid, later on -/
theorem boxedAt {w wr : World} {cs : Array Value} {t : TypeId} (hB : Below (w.heap.size + 1) (w.alloc (.cells cs t)) wr) : wr.heap[w.heap.size]? = some (.cells cs t (0, 0)) :=
  (hB.block w.heap.size (by omega)).trans (heap_alloc_new w _)
theorem boxedCell {w : World} {g : Nat} {cs : Array Value} {t : TypeId} (h : w.heap[g]? = some (.cells cs t (0, 0))) (i : Nat) : w.cell? ⟨g, i, none⟩ = cs[i]? := cell_of_row w g i cs t (0, 0) h
theorem boxedFree {w : World} {g : Nat} {cs : Array Value} {t : TypeId} (h : w.heap[g]? = some (.cells cs t (0, 0))) (i : Nat) : w.frozen? ⟨g, i, none⟩ = false := by simp [World.frozen?, h]
theorem boxed {w wr : World} {a b c : Value} {t : TypeId} (hB : Below (w.heap.size + 1) (w.alloc (.cells #[a, b, c] t)) wr) :
    wr.cell? ⟨w.heap.size, 0, none⟩ = some a ∧ wr.cell? ⟨w.heap.size, 1, none⟩ = some b ∧ wr.cell? ⟨w.heap.size, 2, none⟩ = some c ∧
    wr.frozen? ⟨w.heap.size, 0, none⟩ = false ∧ wr.frozen? ⟨w.heap.size, 1, none⟩ = false ∧ wr.frozen? ⟨w.heap.size, 2, none⟩ = false :=
  have h := boxedAt hB
  ⟨boxedCell h 0, boxedCell h 1, boxedCell h 2, boxedFree h 0, boxedFree h 1, boxedFree h 2⟩
set_option maxHeartbeats 1600000 in
theorem find_c (v : Value) (L : List Prm) (s : ByteArray) (hs : s.size ≤ 140737488355328) (w : World) (h1 : RPrms w v L) (hb : ∀ p ∈ L, p.name.length ≤ 140737488355328) :
    Calls Tryd.prog 64 #[v, .string s] w fun e w' => e = .returned (.tuple #[pv (findGo (us s) L).1, .bool (findGo (us s) L).2]) ∧ Below w.heap.size w w' := by
  obtain ⟨ao, cap, rfl, hm1, c1⟩ := h1.form
  have C1 := Lib.hid c1
  have HBD := Lib.hid hb
  clear c1 h1 hb
  unfold maxLen at hm1
  go_enter Tryd.func64, Tryd.ntmps64
  go_wp2
  have z0 : (w.alloc (.cells #[.string ⟨#[]⟩, .string ⟨#[]⟩, .bool false] 89)).heap.size = w.heap.size + 1 := World.size_alloc _ _
  have rc := Lib.hid (fun (wr : World) (hB : Below (w.heap.size + 1) (w.alloc (.cells #[.string ⟨#[]⟩, .string ⟨#[]⟩, .bool false] 89)) wr) => boxed hB)
  obtain ⟨w0, hw0⟩ : ∃ w0 : World, w0 = w.alloc (.cells #[.string ⟨#[]⟩, .string ⟨#[]⟩, .bool false] 89) := ⟨_, rfl⟩
  have hBw : Below w.heap.size w w0 := by rw [hw0]; exact (Below.refl _ _).alloc (Nat.le_refl _) _
  rw [← hw0] at rc z0
  simp only [← hw0]
  have HW := Lib.hid hw0
  clear hw0
  go_loopw [10] (fun i wr => ∃ k : Nat, k ≤ L.length ∧ i = .int .i64 k ∧ Below (w.heap.size + 1) w0 wr ∧ findGo (us s) L = findGo (us s) (L.drop k)) (fun i _ => L.length - (intOf i).toNat)
  case atStart => exact ⟨0, Nat.zero_le _, rfl, Below.refl _ _, rfl⟩
  case round =>
    obtain ⟨k, hk, rfl, hB, hp⟩ := hrel
    have HP := Lib.hid hp; clear hp
    have hz : w.heap.size < wr.heap.size := by have := hB.size; omega
    have hBr : Below w.heap.size w wr := hBw.trans (hB.mono (by omega))
    obtain ⟨r0, r1, r2, f0, f1, f2⟩ := rc.out wr hB
    by_cases hlt : k < L.length
    · obtain ⟨b, off, rfl, hb1, hc1⟩ := C1.out (by omega)
      have x0 : wr.cell? ⟨b, off + k * 3, none⟩ = some (.string (bs L[k].name)) := by
        rw [hBr.cell (p := ⟨b, off + k * 3, none⟩) hb1]; exact (hc1 k hlt).1
      have x1 : wr.cell? ⟨b, off + k * 3 + 1, none⟩ = some (.string (bs L[k].value)) := by
        rw [hBr.cell (p := ⟨b, off + k * 3 + 1, none⟩) hb1]; exact (hc1 k hlt).2.1
      have x2 : wr.cell? ⟨b, off + k * 3 + 2, none⟩ = some (.bool L[k].has) := by
        rw [hBr.cell (p := ⟨b, off + k * 3 + 2, none⟩) hb1]; exact (hc1 k hlt).2.2
      have k0 : (0 : Int) ≤ (k : Int) := by omega
      have k1 : (k : Int) < (L.length : Int) := by omega
      clear hc1
      have HS := Lib.hid (fun wx => same_c (bs L[k].name) s (by rw [size_bs]; have := HBD.out _ (List.getElem_mem hlt); omega) (by omega) wx)
      rw [us_bs] at HS
      have HBr := Lib.hid hBr
      clear hBr
      cases hq : same L[k].name (us s) with
      | true =>
        have HY := Lib.hid (find_yes L (us s) k hlt HP.out hq)
        rw [hq] at HS; clear hq
        go_wp2_with (go_at_call 78; refine (HS.out _).mono ?_; rintro e wx ⟨rfl, ⟨nd, rfl⟩⟩)
        refine bodyPost_ret (v := .tuple #[pv L[k], .bool true]) (by simp [results, Tryd.results64, go_sem, pv, sv, hz, r0, r1, r2]) rfl ⟨by rw [HY.out], ?_⟩
        exact (((below_drewN (HBr.out.alloc (Nat.le_of_lt hz) _) nd).setCell (Nat.le_refl _) _).setCell (Nat.le_refl _) _).setCell (Nat.le_refl _) _
      | false =>
        have HY := Lib.hid (find_no L (us s) k hlt HP.out hq)
        rw [hq] at HS; clear hq
        go_wp2_with (go_at_call 78; refine (HS.out _).mono ?_; rintro e wx ⟨rfl, ⟨nd, rfl⟩⟩)
        go_roundw
        case rel => exact ⟨k + 1, by omega, by go_num, (below_drewN (hB.alloc (by omega) _) _), HY.out⟩
        case measure => simp [intOf]; omega
    · have HE := Lib.hid (find_end L (us s) k (by omega) HP.out)
      go_wp2
      refine bodyPost_ret (v := .tuple #[.agg #[.string ⟨#[]⟩, .string ⟨#[]⟩, .bool false], .bool false]) (by simp [results, Tryd.results64, go_sem, r0, r1, r2]) rfl ⟨by rw [HE.out]; rfl, ?_⟩
      exact ((hBr.setCell (Nat.le_refl _) _).setCell (Nat.le_refl _) _).setCell (Nat.le_refl _) _

theorem value_c (v : Value) (L : List Prm) (s : ByteArray) (hs : s.size ≤ 140737488355328) (w : World) (h1 : RPrms w v L) (hb : ∀ p ∈ L, p.name.length ≤ 140737488355328) :
    Calls Tryd.prog 48 #[v, .string s] w fun e w' => e = .returned (.tuple #[.string (bs (value L (us s)).1), .bool (value L (us s)).2]) ∧ Below w.heap.size w w' := by
  have HF := Lib.hid (fun wx (hx : RPrms wx v L) => find_c v L s hs wx hx hb)
  have HV := Lib.hid (show value L (us s) = _ from find_value (us s) L)
  have H1 := Lib.hid h1
  clear hb h1
  obtain ⟨p, hp⟩ : ∃ p, p = findGo (us s) L := ⟨_, rfl⟩
  rw [← hp] at HV HF
  clear hp
  unfold pv sv at HF
  go_enter Tryd.func48, Tryd.ntmps48
  go_wp2_with (go_at_call 64; refine (HF.out _ H1.out).mono ?_; rintro e wx ⟨rfl, hC⟩)
  go_ret2
  exact ⟨by rw [HV.out]; rfl, hC.alloc hC.size _⟩

end Go.Proofs.YteiafgoigfehgaaDoor
