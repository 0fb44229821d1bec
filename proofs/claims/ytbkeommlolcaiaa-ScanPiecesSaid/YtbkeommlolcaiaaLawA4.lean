/-
  The statement ScanJoined: what the Go function answers, for texts of at most 1048576 bytes.
-/
import Derived.Test.YtbkeommlolcaiaaLawA3
namespace Go.Proofs.Ytbkeommlolcaiaa
open Go.RowKit

section
variable {P : Program} {ops : Array Oper} {rest : List Oper} {o : Oper} {a : Act} {Q : Exit → Act → World → Prop}
/-- string(b) of a piece of a block of bytes, as one operation -/
theorem op_strAt {K : Act → World → Prop} {w : World} {e src dst : TypeId} {g off n cap : Nat} {l : List UInt8} {x : Operand}
    (ho : o.op = .convert src dst x)
    (hs : P.underlying src = some (.slice e)) (he : P.underlying e = some (.int .u8)) (hd : P.underlying dst = some .string)
    (hx : a.eval x = .slice (some ⟨g, off, none⟩) n cap) (hn : l.length = n)
    (hc : ∀ j (hj : j < l.length), w.cell? ⟨g, off + j, none⟩ = some (bv l[j]))
    (h : K (a.put o.dst (.string (bs l))) w) :
    o.wp P a w K Q := by
  subst hn
  have hrun : (convert src dst (.slice (some ⟨g, off, none⟩) l.length cap)).run P w = .ok (.string (bs l)) w := by
    refine run_convert_bytes_back w src dst e ⟨g, off, none⟩ cap l hs he hd ?_
    intro j hj
    have hadd : (⟨g, off, none⟩ : Addr).add j = ⟨g, off + j, none⟩ := by unfold Addr.add; split <;> simp_all
    rw [hadd]; exact hc j hj
  unfold Oper.wp
  simp [execOp, ho, hx, hrun, Result.andThen]
  exact h
/-- the same at an operation with a guard that holds -/
theorem wpList_strAtG {w : World} {e src dst : TypeId} {g off n cap : Nat} {l : List UInt8} {x : Operand}
    (hw : Region.wanted o (yielded ops a.tmps) = true) (ho : o.op = .convert src dst x)
    (hs : P.underlying src = some (.slice e)) (he : P.underlying e = some (.int .u8)) (hd : P.underlying dst = some .string)
    (hx : a.eval x = .slice (some ⟨g, off, none⟩) n cap) (hn : l.length = n)
    (hc : ∀ j (hj : j < l.length), w.cell? ⟨g, off + j, none⟩ = some (bv l[j]))
    (h : wpList P ops Q rest (a.put o.dst (.string (bs l))) w) :
    wpList P ops Q (o :: rest) a w :=
  wpList_step fun _ hK => by rw [if_pos hw]; exact op_strAt ho hs he hd hx hn hc (hK _ _ h)
end

set_option maxHeartbeats 1600000 in
theorem joined_law (s : ByteArray) (hs : s.size ≤ 1048576) (c : UInt8) (w : World) :
    Calls Try.prog 3 #[.string s, .int .u8 c.toNat] w fun e w' => e = .returned (.bool true) ∧ Below w.heap.size w w' := by
  have H1 := Lib.hid (fun wx => parts_c s (by omega) c wx)
  obtain ⟨L, hL⟩ : ∃ L, L = parts (us s) c := ⟨_, rfl⟩
  have hg : glue [c] L = us s := by rw [hL]; exact glue_parts c (us s)
  have hne : L ≠ [] := by rw [hL]; exact partsGo_ne c (us s) false false []
  rw [← hL] at H1
  clear hL
  have HG := Lib.hid hg
  have HN := Lib.hid hne
  clear hg hne
  have hB := bel0 w
  go_enter Try.func3, Try.ntmps3
  go_wp2_with fail
  refine (H1.out _).mono ?_
  rintro e w1 ⟨v, rfl, hR, hC⟩
  replace hB := hB.trans (hC.mono hB.size)
  obtain ⟨ao, cap, hv, -, -⟩ := hR.form
  obtain ⟨n, hn⟩ : ∃ n, L.length = n + 1 := ⟨L.length - 1, by have := HN.out; have : L.length ≠ 0 := fun h => this (List.eq_nil_of_length_eq_zero h); omega⟩
  rw [hn] at hv
  subst hv
  obtain ⟨w2, hw2⟩ : ∃ w2, w2 = w1.alloc (.cells #[.int .u8 c.toNat] 5) := ⟨_, rfl⟩
  have hC2 : Below w1.heap.size w1 w2 := by rw [hw2]; exact (Below.refl _ w1).alloc (Nat.le_refl _) _
  have hcell : w2.cell? ⟨w1.heap.size, 0, none⟩ = some (bv c) := by rw [hw2]; unfold World.alloc World.cell?; simp [bv]
  have hR2 := hR.below hC2 (Nat.le_refl _)
  have hB2 := hB.trans (hC2.mono hB.size)
  have HB2 := Lib.hid hB2
  have H2 := Lib.hid (glue_c _ L (bs [c]) w2 hR2 (by rw [us_bs, HG.out, length_us]; omega))
  rw [us_bs, HG.out, bs_us] at H2
  have HC : ∀ j (hj : j < [c].length), w2.cell? ⟨w1.heap.size, 0 + j, none⟩ = some (bv [c][j]) := by
    intro j hj
    have h0 : j = 0 := by simpa using hj
    subst h0; exact hcell
  have HC := Lib.hid HC
  clear hcell hR2 hB2 hC2
  subst hw2
  go_wp2_with (first
    | (refine wpList_strAtG (l := [c]) rfl rfl Try.underlying25 Try.underlying5 Try.underlying9 rfl rfl ?_ ?_; (focus exact HC.out))
    | (go_at_call 12; refine (H2.out).mono ?_; rintro e w3 ⟨rfl, hC⟩; replace hB := HB2.out.trans (hC.mono HB2.out.size))
    | (go_at_call 13; refine (awake_c _).mono ?_; rintro e wx ⟨rfl, hC⟩; replace hB := hB.trans (hC.mono hB.size)))
  all_goals
    go_ret
    exact ⟨by simp, hB⟩

end Go.Proofs.Ytbkeommlolcaiaa
