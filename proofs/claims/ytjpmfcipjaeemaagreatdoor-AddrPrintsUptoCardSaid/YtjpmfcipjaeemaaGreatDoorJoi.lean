/-
  strings.Join(l, " ").
-/
import Derived.Test.YtjpmfcipjaeemaaGreatDoorBld
import Derived.Test.YtjpmfcipjaeemaaGreatDoorScS
namespace Go.Proofs.YtjpmfcipjaeemaaGreatDoor
open Go.RowKit

def sumJ : List (List UInt8) → Nat
  | [] => 0
  | x :: r => x.length + sumJ r
theorem sumJ_take (L : List (List UInt8)) (k : Nat) (h : k < L.length) : sumJ (L.take (k + 1)) = sumJ (L.take k) + L[k].length := by
  induction L generalizing k with
  | nil => simp at h
  | cons x r ih =>
    cases k with
    | zero => simp [sumJ]
    | succ k =>
      have := ih k (by simpa using h)
      simp only [List.take_succ_cons, sumJ, List.getElem_cons_succ] at this ⊢
      omega
theorem sumJ_le : ∀ (L : List (List UInt8)) (k : Nat), sumJ (L.take k) ≤ sumJ L
  | [], k => by simp [sumJ]
  | x :: r, 0 => Nat.zero_le _
  | x :: r, k + 1 => by
    have := sumJ_le r k
    rw [List.take_succ_cons, sumJ, sumJ]; omega
theorem glue_snocJ (sep : List UInt8) : ∀ (L : List (List UInt8)) (x : List UInt8), L ≠ [] → glue sep (L ++ [x]) = glue sep L ++ (sep ++ x)
  | [], _, h => absurd rfl h
  | [a], x, _ => rfl
  | a :: b :: r, x, _ => by
    have ih := glue_snocJ sep (b :: r) x (by simp)
    show a ++ (sep ++ glue sep ((b :: r) ++ [x])) = (a ++ (sep ++ glue sep (b :: r))) ++ (sep ++ x)
    rw [ih]; simp
theorem glue_takeJ (sep : List UInt8) (L : List (List UInt8)) (k : Nat) (h : k + 1 < L.length) : glue sep (L.take (k + 2)) = glue sep (L.take (k + 1)) ++ (sep ++ L[k + 1]) := by
  rw [List.take_succ_eq_append_getElem (i := k + 1) h, glue_snocJ sep _ _ (by intro e; have := congrArg List.length e; rw [List.length_take, List.length_nil] at this; omega)]
theorem glueJ_len : ∀ (L : List (List UInt8)) (k : Nat), (glue [32] (L.take k)).length ≤ sumJ L + L.length := by
  have key : ∀ L : List (List UInt8), (glue [32] L).length ≤ sumJ L + L.length := by
    intro L
    induction L with
    | nil => exact Nat.zero_le _
    | cons x r ih =>
      cases r with
      | nil => show x.length ≤ x.length + 0 + 1; omega
      | cons y s =>
        show (x ++ ([32] ++ glue [32] (y :: s))).length ≤ x.length + sumJ (y :: s) + ((y :: s).length + 1)
        rw [List.length_append, List.length_append]
        have : ([32] : List UInt8).length = 1 := rfl
        omega
  intro L k
  have h1 := key (L.take k)
  have h2 := sumJ_le L k
  have h3 : (L.take k).length ≤ L.length := by rw [List.length_take]; omega
  omega

set_option maxRecDepth 100000 in
set_option maxHeartbeats 6400000 in
theorem join_c (v : Value) (L : List (List UInt8)) (w : World) (h1 : RStrs w v L) (hbd : sumJ L + L.length ≤ 1099511627776) :
    Calls Tryz.prog 62 #[v, .string ⟨#[32]⟩] w fun e w' => e = .returned (.string (bs (glue [32] L))) ∧ Below w.heap.size w w' := by
  obtain ⟨ao, cap, rfl, hm1, c1⟩ := h1.form
  have C1 := Lib.hid c1
  have hcapF : 0 < L.length → L.length ≤ cap := by
    intro h0
    rcases h1.cases with ⟨_, h⟩ | ⟨b, off, c, h, hc, _⟩
    · rw [h] at h0; cases h0
    · injection h with _ _ h; omega
  clear c1 h1
  unfold maxLen at hm1
  by_cases h0 : L.length = 0
  · obtain rfl := List.eq_nil_of_length_eq_zero h0
    clear h0 hcapF
    go_enter Tryz.func62, Tryz.ntmps62
    go_wp2
    go_ret
    exact ⟨rfl, Below.refl _ _⟩
  obtain ⟨b, off, rfl, hb1, hc1⟩ := C1.out (by omega)
  by_cases h2 : L.length = 1
  · obtain ⟨x, rfl⟩ : ∃ x, L = [x] := by
      match L, h2 with
      | [x], _ => exact ⟨x, rfl⟩
    have x0 : w.cell? ⟨b, off, none⟩ = some (.string (bs x)) := hc1 0 (Nat.zero_lt_one)
    clear h0 h2 hc1 hcapF
    go_enter Tryz.func62, Tryz.ntmps62
    go_wp2
    go_ret
    exact ⟨rfl, Below.refl _ _⟩
  have hL2 : 2 ≤ L.length := by omega
  have hcp : L.length ≤ cap := hcapF (by omega)
  have HC := Lib.hid hc1
  have t0 : ((L.length : Int) == 0) = false := by rw [beq_eq_false_iff_ne]; omega
  have t1 : ((L.length : Int) == 1) = false := by rw [beq_eq_false_iff_ne]; omega
  have hsl := Lib.hid (sumJ_le L)
  have hbl : L.length ≤ 1099511627776 := by omega
  have q0 : ¬ ((9223372036854775807 : Int) / ((L.length : Int) - 1) ≤ 1) := by
    intro h
    have h3 : (9223372036854775807 : Int) < 2 * ((L.length : Int) - 1) := by
      have := Int.lt_mul_of_ediv_lt (a := 9223372036854775807) (b := 2) (c := (L.length : Int) - 1) (by omega) (by omega)
      omega
    omega
  clear h0 h2 hc1 hcapF
  go_enter Tryz.func62, Tryz.ntmps62
  go_wp2
  go_loop [5, 41] (fun n i => ∃ k N : Nat, k ≤ L.length ∧ i = .int .i64 k ∧ n = .int .i64 N ∧ Hid (N + 1 = L.length + sumJ (L.take k)) ∧ N ≤ 1099511627776) (fun _ i => L.length - (intOf i).toNat)
  case atStart => exact ⟨0, L.length - 1, Nat.zero_le _, rfl, by congr 1; omega, Lib.hid (by simp [sumJ]; omega), by omega⟩
  case round =>
    obtain ⟨k, N, hk, rfl, rfl, HN, hN⟩ := hrel
    by_cases hlt : k < L.length
    · have x0 : w.cell? ⟨b, off + k, none⟩ = some (.string (bs L[k])) := HC.out k hlt
      have hst := sumJ_take L k hlt
      have hle := hsl.out (k + 1)
      obtain ⟨X, hX⟩ : ∃ X, X = bs L[k] := ⟨_, rfl⟩
      have hXs : X.size = L[k].length := by rw [hX, size_bs]
      rw [← hX] at x0
      have hn1 := HN.out
      have hN2 : N + X.size ≤ 1099511627776 := by omega
      have HN2 := Lib.hid (show (N + X.size) + 1 = L.length + sumJ (L.take (k + 1)) by omega)
      have hXb : X.size ≤ 1099511627776 := by omega
      clear hst hle hX hXs hn1
      have k0 : (0 : Int) ≤ (k : Int) := by omega
      have k1 : (k : Int) < (L.length : Int) := by omega
      go_wp2
      go_round
      case rel => exact ⟨k + 1, N + X.size, by omega, by go_num, by simp, HN2, hN2⟩
      case measure => simp [intOf]; omega
    · have x0 : w.cell? ⟨b, off, none⟩ = some (.string (bs L[0])) := HC.out 0 (by omega)
      have hn1 := HN.out
      rw [List.take_of_length_le (by omega)] at hn1
      have h0t := sumJ_take L 0 (by omega)
      have h0l := hsl.out (0 + 1)
      obtain ⟨X, hX⟩ : ∃ X, X = bs L[0] := ⟨_, rfl⟩
      have hXs : X.size = L[0].length := by rw [hX, size_bs]
      have HX0 := Lib.hid (show us X = glue [32] (L.take 1) by
        rw [hX, us_bs]
        cases L with
        | nil => exact absurd hL2 (by decide)
        | cons x r => rfl)
      rw [← hX] at x0
      have hXb : X.size ≤ 1099511627776 := by omega
      clear h0t h0l hX hXs hn1
      have hcap1 : ¬ (cap = 1) := by omega
      have hBA : Below w.heap.size w (w.alloc (.cells #[.pointer none, .slice none 0 0] 65)) := (Below.refl _ _).alloc (Nat.le_refl _) _
      have HBK := Lib.hid (heap_alloc_new w (.cells #[.pointer none, .slice none 0 0] 65))
      have e32 : (⟨#[32]⟩ : ByteArray).size = 1 := rfl
      go_wp2_with (first | (go_at_call 88; refine (Tryz.Builder_Grow_fresh w.heap.size w.heap.size N _ (Nat.le_refl _) HBK.out hBA.size (by omega)).mono ?_; rintro e w1 ⟨rfl, hbq, hB1⟩; have hWr : Bld w.heap.size w.heap.size [] w1 := .inr hbq; have hBr := hBA.trans hB1; have y0 : w1.cell? ⟨b, off, none⟩ = some (.string X) := (hBr.cell (p := ⟨b, off, none⟩) hb1).trans x0) | (go_at_call 31; (with_reducible refine (bld_write w.heap.size w.heap.size _ _ _ hWr (by (try simp only [List.length_append]); (try simp only [List.length_nil]); (try simp only [length_us]); omega) hBr.size).mono ?_); rintro e w5 ⟨rfl, hWr, hB5⟩; have hBr := hBr.trans hB5))
      rw [List.nil_append] at hWr
      obtain ⟨l0, hl0⟩ : ∃ l, l = us X := ⟨_, rfl⟩
      rw [← hl0] at hWr
      have HL0 := Lib.hid (show l0 = glue [32] (L.take 1) by rw [hl0, HX0.out])
      clear hl0
      go_loopw [65] (fun i wr => ∃ (k : Nat) (l : List UInt8), k + 1 ≤ L.length ∧ i = .int .i64 k ∧ Hid (l = glue [32] (L.take (k + 1))) ∧ Bld w.heap.size w.heap.size l wr ∧ Below w.heap.size w wr) (fun i _ => L.length - (intOf i).toNat)
      case atStart => exact ⟨0, l0, by omega, rfl, HL0, hWr, hBr⟩
      case round =>
        clear hWr hBr
        obtain ⟨k, l, hk, rfl, HL, hWr, hBr⟩ := hrel
        have hgl := glueJ_len L (k + 1)
        have hll : l.length ≤ 1099511627776 := by rw [HL.out]; omega
        clear hgl
        by_cases hlt : k + 1 < L.length
        · have x1 : wr.cell? ⟨b, off + 1 + k, none⟩ = some (.string (bs L[k + 1])) := by
            rw [hBr.cell (p := ⟨b, off + 1 + k, none⟩) hb1, show off + 1 + k = off + (k + 1) by omega]; exact HC.out (k + 1) hlt
          have hst := sumJ_take L (k + 1) hlt
          have hle := hsl.out (k + 1 + 1)
          have HGT := Lib.hid (glue_takeJ [32] L k hlt)
          obtain ⟨Y, hY⟩ : ∃ X, X = bs L[k + 1] := ⟨_, rfl⟩
          have hYs : Y.size ≤ 1099511627776 := by rw [hY, size_bs]; omega
          have HYu := Lib.hid (show us Y = L[k + 1] by rw [hY, us_bs])
          rw [← hY] at x1
          clear hY hst hle
          have k0 : (0 : Int) ≤ (k : Int) := by omega
          have k1 : (k : Int) < (L.length : Int) - 1 := by omega
          have k2 : k < L.length - 1 := by omega
          have k3 : (k : Int) < ((L.length - 1 : Nat) : Int) := by omega
          go_wp2_with (first | (go_at_call 31; (with_reducible refine (bld_write w.heap.size w.heap.size _ _ _ hWr (by (try simp only [List.length_append]); (try simp only [List.length_nil]); (try simp only [length_us]); omega) hBr.size).mono ?_); rintro e w5 ⟨rfl, hWr, hB5⟩; have hBr := hBr.trans hB5))
          go_roundw
          case rel => exact ⟨k + 1, _, by omega, by go_num, Lib.hid (by rw [HGT.out, HL.out, HYu.out]; simp [us]), hWr, hBr⟩
          case measure => simp [intOf]; omega
        · have k1 : ¬ ((k : Int) < (L.length : Int) - 1) := by omega
          have k2 : ¬ (k < L.length - 1) := by omega
          have k3 : ¬ ((k : Int) < ((L.length - 1 : Nat) : Int)) := by omega
          have hkL : k + 1 = L.length := by omega
          have HL2 := HL.out
          rw [hkL, List.take_of_length_le (Nat.le_refl _)] at HL2
          have HLf := Lib.hid HL2
          clear HL2 hkL
          go_wp2_with (go_at_call 35; refine (bld_str _ _ l _ hWr hBr.size).mono ?_; rintro e w8 ⟨rfl, hB8⟩)
          go_ret
          exact ⟨ret_bs (by rw [us_bs, HLf.out]), hBr.trans hB8⟩

end Go.Proofs.YtjpmfcipjaeemaaGreatDoor
