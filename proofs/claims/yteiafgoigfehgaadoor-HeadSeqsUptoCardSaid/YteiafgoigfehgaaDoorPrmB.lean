/-
  rosterref04.Place.
-/
import Derived.Test.YteiafgoigfehgaaDoorPrmA
namespace Go.Proofs.YteiafgoigfehgaaDoor
open Go.RowKit

set_option maxHeartbeats 800000 in
theorem place_c (v : Value) (L : List Prm) (s : ByteArray) (hs : s.size ≤ 140737488355328) (w : World) (h1 : RPrms w v L) (hb : ∀ p ∈ L, p.name.length ≤ 140737488355328) :
    Calls Tryd.prog 65 #[v, .string s] w fun e w' => e = .returned (.int .i64 (place L (us s))) ∧ Below w.heap.size w w' := by
  obtain ⟨ao, cap, rfl, hm1, c1⟩ := h1.form
  have C1 := Lib.hid c1
  have HBD := Lib.hid hb
  clear c1 h1 hb
  unfold maxLen at hm1
  go_enter Tryd.func65, Tryd.ntmps65
  go_wp2
  go_loopw [5] (fun i wr => ∃ k : Nat, k ≤ L.length ∧ i = .int .i64 k ∧ Below w.heap.size w wr ∧ place L (us s) = placeGo (us s) (L.drop k) k) (fun i _ => L.length - (intOf i).toNat)
  case atStart => exact ⟨0, Nat.zero_le _, rfl, Below.refl _ _, rfl⟩
  case round =>
    obtain ⟨k, hk, rfl, hB, hp⟩ := hrel
    have HP := Lib.hid hp; clear hp
    by_cases hlt : k < L.length
    · obtain ⟨b, off, rfl, hb1, hc1⟩ := C1.out (by omega)
      have x1 : wr.cell? ⟨b, off + k * 3, none⟩ = some (.string (bs L[k].name)) := by
        rw [hB.cell (p := ⟨b, off + k * 3, none⟩) hb1]; exact (hc1 k hlt).1
      have k0 : (0 : Int) ≤ (k : Int) := by omega
      have k1 : (k : Int) < (L.length : Int) := by omega
      clear hc1
      have HS := Lib.hid (fun wx => sameR_c (bs L[k].name) s (by rw [size_bs]; exact HBD.out _ (List.getElem_mem hlt)) hs wx)
      rw [us_bs] at HS
      have HB := Lib.hid hB
      cases hq : same L[k].name (us s) with
      | true =>
        have HY := Lib.hid (place_yes L (us s) k hlt HP.out hq)
        rw [hq] at HS; clear hq
        go_wp2_with (go_at_call 79; refine (HS.out _).mono ?_; rintro e wx ⟨rfl, hC⟩)
        go_ret
        exact ⟨ret_int HY.out.symm, HB.out.trans (hC.mono HB.out.size)⟩
      | false =>
        have HY := Lib.hid (place_no L (us s) k hlt HP.out hq)
        rw [hq] at HS; clear hq
        go_wp2_with (go_at_call 79; refine (HS.out _).mono ?_; rintro e wx ⟨rfl, hC⟩)
        go_roundw
        case rel => exact ⟨k + 1, by omega, by go_num, HB.out.trans (hC.mono HB.out.size), HY.out⟩
        case measure => simp [intOf]; omega
    · have HE := Lib.hid (place_end L (us s) k (by omega) HP.out)
      go_wp2
      go_ret
      exact ⟨ret_int HE.out.symm, hB⟩

end Go.Proofs.YteiafgoigfehgaaDoor
