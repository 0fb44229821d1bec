/- Contracts of Go functions, and plain laws. No condition but those told. -/
import Derived.Test.YtgkilllbkljibaaGreatDoorRkp
set_option linter.unusedSimpArgs false
set_option linter.unusedVariables false
set_option maxRecDepth 100000
namespace Go.Proofs.YtgkilllbkljibaaGreatDoor
open Go.RowKit Go.Sort
section
variable {m : Mg} {r : Rqt}
theorem readS_0 {c : Int} (h : mustS m = (r, c)) (hc : c ≠ 0) : readS m = (rq0, c) := by unfold readS; rw [h, if_pos hc]
theorem readS_at (h : mustS m = (r, 0)) : readS m = read2 m r := by unfold readS; rw [h, if_neg (fun h => h rfl)]
theorem read2_1 (h : err5 m r ≠ 0) : read2 m r = (rq0, err5 m r) := by unfold read2; rw [if_pos h]
theorem read2_2 (h : err5 m r = 0) {c : Int} (hf : firstE (piecesS m.hdrs nRecR) = c) (hc : c ≠ 0) : read2 m r = (rq0, c) := by unfold read2; rw [if_neg (by rw [h]; decide), hf, if_pos hc]
theorem read2_3 (h : err5 m r = 0) (hf : firstE (piecesS m.hdrs nRecR) = 0) (hl : 16 < (piecesS m.hdrs nRecR).length ∨ 16 < (piecesS m.hdrs nAccept).length) : read2 m r = (rq0, 4) := by unfold read2; rw [if_neg (by rw [h]; decide), hf, if_neg (by decide), if_pos hl]
theorem read2_4 (h : err5 m r = 0) (hf : firstE (piecesS m.hdrs nRecR) = 0) (h1 : ¬ 16 < (piecesS m.hdrs nRecR).length) (h2 : ¬ 16 < (piecesS m.hdrs nAccept).length) : read2 m r = (fullS m r, 0) := by
 unfold read2; rw [if_neg (by rw [h]; decide), hf, if_neg (by decide), if_neg (by rintro (h | h); exact h1 h; exact h2 h)]
end
theorem firstE_cons (x : List UInt8) (l : List (List UInt8)) : firstE (x :: l) = if (parseA x).2 ≠ 0 then (parseA x).2 else firstE l := rfl
theorem pieces_bd (B : Nat) (H : List Hdr) (n : List UInt8) (h : ∀ x ∈ H, x.value.length ≤ B) : ∀ x ∈ piecesS H n, x.length ≤ B := by
 intro x hx
 unfold piecesS at hx
 obtain ⟨v, hv, hx⟩ := List.mem_flatMap.1 hx
 obtain ⟨y, hy, rfl⟩ := List.mem_map.1 hx
 obtain ⟨q, hq, rfl⟩ := allS_mem H n v hv
 exact Nat.le_trans (trim_le y) (Nat.le_trans (parts_bd 44 _ y hy) (h q hq))
def x7 (M TG RS B : ByteArray) (X : Int) (u : Value) (er : Int) : Array Value := #[.string M, .string TG, .int .i64 X, .string RS, u, .string B, .int .i64 er]
structure RSt (w w1 : World) (msg : Array Value) (gx : Nat) (rs xs : Array Value) (wr : World) : Prop where
 bm : Blk wr w.heap.size 24 msg
 b2 : Blk wr (w.heap.size + 1) 37 zrow
 br : Blk wr w1.heap.size 37 rs
 bx : Blk wr gx 58 xs
 hB : Below w.heap.size w wr
 hK : Below w1.heap.size w1 wr
 l1 : w.heap.size + 1 < w1.heap.size
 l2 : w1.heap.size < gx
theorem RSt.call {w w1 wr w' : World} {msg rs xs : Array Value} {gx : Nat} (h : RSt w w1 msg gx rs xs wr) (hC : Below wr.heap.size wr w') : RSt w w1 msg gx rs xs w' :=
 ⟨h.bm.call hC, h.b2.call hC, h.br.call hC, h.bx.call hC, h.hB.trans (hC.mono h.hB.size), h.hK.trans (hC.mono h.hK.size), h.l1, h.l2⟩
theorem RSt.kp {w w1 wr w' : World} {msg rs xs rs' xs' : Array Value} {gx : Nat} (h : RSt w w1 msg gx rs xs wr) (hK : Kp w1.heap.size gx wr w') (br : Blk w' w1.heap.size 37 rs') (bx : Blk w' gx 58 xs') : RSt w w1 msg gx rs' xs' w' :=
 ⟨(hK.b.block _ (by have := h.l1; omega)).trans h.bm, (hK.b.block _ h.l1).trans h.b2, br, bx, h.hB.trans (hK.b.mono (by have := h.l1; omega)), h.hK.trans hK.b, h.l1, h.l2⟩
theorem RSt.storeR {w w1 wr w' : World} {msg rs xs rs' : Array Value} {gx : Nat} (h : RSt w w1 msg gx rs xs wr) (hb : Blk w' w1.heap.size 37 rs') (hf : ∀ k, k ≠ w1.heap.size → w'.heap[k]? = wr.heap[k]?) (hs : w'.heap.size = wr.heap.size) (hl : ∀ B, B ≤ w1.heap.size → Below B wr w') : RSt w w1 msg gx rs' xs w' :=
 h.kp (Kp.store1 hf hs hl) hb ((hf _ (by have := h.l2; omega)).trans h.bx)
theorem RSt.storeX {w w1 wr w' : World} {msg rs xs xs' : Array Value} {gx : Nat} (h : RSt w w1 msg gx rs xs wr) (hb : Blk w' gx 58 xs') (hf : ∀ k, k ≠ gx → w'.heap[k]? = wr.heap[k]?) (hs : w'.heap.size = wr.heap.size) (hl : ∀ B, B ≤ gx → Below B wr w') : RSt w w1 msg gx rs xs' w' :=
 h.kp (Kp.store2 h.l2 hf hs hl) ((hf _ (by have := h.l2; omega)).trans h.br) hb
def RPost (q : Rqt × Int) (w : World) (e : Ending) (w' : World) : Prop :=
 ∃ xs : Array Value, e = .returned (.tuple #[.agg xs, .int .i64 q.2]) ∧ RRqt w' (.agg xs) q.1 ∧ xs.size = 38 ∧ (xs.toList.all fun v => v.oneCell') = true ∧ Below w.heap.size w w'
theorem rEnd {q : Rqt × Int} {w w' : World} {c : Int} (h : q = (rq0, c)) (hB : Below w.heap.size w w') : RPost q w (.returned (.tuple #[.agg zrow, .int .i64 c])) w' :=
 ⟨zrow, by rw [h], by rw [h]; exact RRqt.zero _, by kernel_rfl, by kernel_rfl, hB⟩
theorem RRqt.size {w : World} {rs : Array Value} {r : Rqt} (h : RRqt w (.agg rs) r) : rs.size = 38 := by
 obtain ⟨_, _, _, _, _, _, _, _, _, _, _, _, e, _⟩ := h
 injection e with e
 rw [e]; rfl
end Go.Proofs.YtgkilllbkljibaaGreatDoor
