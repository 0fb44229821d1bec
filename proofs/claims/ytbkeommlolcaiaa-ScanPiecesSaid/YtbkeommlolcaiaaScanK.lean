/-
  Lists of texts held against each other, and glued; digits.
-/
import Derived.Test.YtbkeommlolcaiaaScanJ
namespace Go.Proofs.Ytbkeommlolcaiaa
open Go.RowKit

theorem RStrs.form {w : World} {v : Value} {L : List (List UInt8)} (h : RStrs w v L) : ∃ ao cap, v = .slice ao L.length cap ∧ L.length ≤ maxLen ∧
    (0 < L.length → ∃ b off, ao = some ⟨b, off, none⟩ ∧ b < w.heap.size ∧ ∀ j (hj : j < L.length), w.cell? ⟨b, off + j, none⟩ = some (.string (bs L[j]))) := by
  rcases h.cases with ⟨rfl, rfl⟩ | ⟨b, off, cap, rfl, h2, h2', h3, h4⟩
  · exact ⟨none, 0, rfl, Nat.zero_le _, fun h => by simp at h⟩
  · exact ⟨some ⟨b, off, none⟩, cap, rfl, Nat.le_trans h2 h2', fun _ => ⟨b, off, rfl, h3, h4⟩⟩
theorem lists_drop (L M : List (List UInt8)) (k : Nat) (h : k < L.length) (h' : k < M.length) :
    (L.drop k == M.drop k) = ((L[k] == M[k]) && (L.drop (k + 1) == M.drop (k + 1))) := by
  rw [List.drop_eq_getElem_cons h, List.drop_eq_getElem_cons h']; rfl

set_option maxHeartbeats 800000 in
theorem texts_c (v1 v2 : Value) (L M : List (List UInt8)) (w : World) (h1 : RStrs w v1 L) (h2 : RStrs w v2 M) :
    Calls Try.prog 14 #[v1, v2] w fun e w' => e = .returned (.bool (L == M)) ∧ Drn w w' := by
  obtain ⟨ao, cap, rfl, hm1, c1⟩ := h1.form
  obtain ⟨bo, cap', rfl, hm2, c2⟩ := h2.form
  have C1 := Lib.hid c1
  have C2 := Lib.hid c2
  clear c1 c2 h1 h2
  unfold maxLen at hm1 hm2
  by_cases hne : L.length = M.length
  · have hle1 : L.length ≤ M.length := by omega
    have hle2 : M.length ≤ L.length := by omega
    have hn : ((L.length : Int) != (M.length : Int)) = false := by simp [hne]
    have HE := Lib.hid hne
    clear hne
    go_enter Try.func14, Try.ntmps14
    go_wp2
    go_loopw [5] (fun i wr => ∃ k : Nat, k ≤ L.length ∧ i = .int .i64 k ∧ Drn w wr ∧ (L.drop k == M.drop k) = (L == M)) (fun i _ => L.length - (intOf i).toNat)
    case atStart => exact ⟨0, Nat.zero_le _, rfl, Drn.refl _, rfl⟩
    case round =>
      obtain ⟨k, hk, rfl, hD, hb⟩ := hrel
      have HB := Lib.hid hb; clear hb
      by_cases hlt : k < L.length
      · have hlt' : k < M.length := by omega
        obtain ⟨b, off, rfl, hb1, hc1⟩ := C1.out (by omega)
        obtain ⟨b', off', rfl, hb2, hc2⟩ := C2.out (by omega)
        have hd := Lib.hid (lists_drop L M k hlt hlt')
        have x1 : wr.cell? ⟨b, off + k, none⟩ = some (.string (bs L[k])) := by
          obtain ⟨n, rfl⟩ := hD; exact hc1 k hlt
        have x2 : wr.cell? ⟨b', off' + k, none⟩ = some (.string (bs M[k])) := by
          obtain ⟨n, rfl⟩ := hD; exact hc2 k hlt'
        have k0 : (0 : Int) ≤ (k : Int) := by omega
        have k1 : (k : Int) < (L.length : Int) := by omega
        have k2 : (k : Int) < (M.length : Int) := by omega
        clear hc1 hc2
        cases hq : (L[k] == M[k]) with
        | true =>
          have HQ := Lib.hid hq
          go_wp2
          go_quiet (fail)
          go_wp2
          go_roundw
          case rel => exact ⟨k + 1, by omega, by go_num, hD.step _, by rw [← HB.out, hd.out, HQ.out]; rfl⟩
          case measure => simp [intOf]; omega
        | false =>
          have HQ := Lib.hid hq
          go_wp2
          go_quiet (fail)
          go_wp2
          go_ret
          exact ⟨ret_bool (by rw [← HB.out, hd.out, HQ.out]; rfl), hD.step _⟩
      · go_wp2
        go_ret
        refine ⟨ret_bool ?_, hD⟩
        rw [← HB.out, List.drop_eq_nil_iff.2 (by omega), List.drop_eq_nil_iff.2 (by omega)]; rfl
  · have hn : ((L.length : Int) != (M.length : Int)) = true := by simp; omega
    have HN := Lib.hid (show (L == M) = false by
      rw [beq_eq_false_iff_ne]; intro e; exact hne (congrArg List.length e))
    clear hne
    go_enter Try.func14, Try.ntmps14
    go_wp2
    go_ret
    exact ⟨ret_bool HN.out.symm, Drn.refl _⟩

theorem strCells_us (s : ByteArray) : Lib.strCells s = (us s).map bv := by
  simp [Lib.strCells, us, bv]
/-- append of a string to a byte buffer -/
theorem wpList_appStr {P : Program} {ops : Array Oper} {rest : List Oper} {o : Oper} {a : Act} {Q : Exit → Act → World → Prop} {wE w : World} {base : Nat} {e t u : TypeId} {v : Value} {l : List UInt8} {s x : Operand} {S : ByteArray} (m : List UInt8) (hS : us S = m)
    (hgd : o.guard = none) (ho : o.op = .call { callee := .builtin .append, args := #[s, x], argTypes := #[t, u] })
    (ht : P.underlying t = some (.slice e)) (hu : P.underlying u = some .string) (hi : infoIs P e (.int .u8 0) 1 1)
    (hx : a.eval x = .string S) (hs : a.eval s = v) (hown : Byt w base e v l) (hB : Below base wE w) (hbase : base ≤ wE.heap.size)
    (hbd : l.length + m.length ≤ 140737488355328)
    (h : ∀ v' w', Byt w' base e v' (l ++ m) → Below base wE w' → wpList P ops Q rest (a.put o.dst v') w') :
    wpList P ops Q (o :: rest) a w := by
  subst hS
  obtain ⟨i, hi0, hi1, hi2, hi3⟩ := info_parts hi
  have hz := hB.size
  rw [length_us] at hbd
  refine Lib.wpList_append_own_string _ hgd s x t u ho base e i ht hu hi0 hi1 hi2 hi3 v l.length (l.map bv) hs hown S hx (by simp only [maxLen]; omega) hbd (by omega) ?_
  intro v' w' h1 hg _
  refine h v' w' ?_ (hB.grown hg (by omega) fun k hk => ((World.ownsRow.lt hown) k hk).1)
  unfold Byt
  rw [strCells_us] at h1
  simpa [length_us] using h1

theorem glue_snoc (sep : List UInt8) (L : List (List UInt8)) (x : List UInt8) (h : L ≠ []) : glue sep (L ++ [x]) = glue sep L ++ (sep ++ x) := by
  induction L with
  | nil => exact absurd rfl h
  | cons y r ih =>
    cases r with
    | nil => simp [glue]
    | cons z r' =>
      have := ih (by simp)
      simp only [List.cons_append] at this ⊢
      rw [glue, this, glue]
      simp
theorem take_snoc (L : List (List UInt8)) (k : Nat) (h : k < L.length) : L.take (k + 1) = L.take k ++ [L[k]] := List.take_succ_eq_append_getElem h
theorem glue_step (sep : List UInt8) (L : List (List UInt8)) (k : Nat) (h : k < L.length) (h0 : 0 < k) : glue sep (L.take (k + 1)) = (glue sep (L.take k) ++ sep) ++ L[k] := by
  rw [take_snoc L k h, glue_snoc sep _ _ (by intro e; have := congrArg List.length e; rw [List.length_take, List.length_nil] at this; omega)]
  simp
theorem glue_first (sep : List UInt8) (L : List (List UInt8)) (h : 0 < L.length) : glue sep (L.take 1) = L[0] := by
  rw [take_snoc L 0 h]; rfl
theorem glue_le (sep : List UInt8) (L : List (List UInt8)) (k : Nat) : (glue sep (L.take k)).length ≤ (glue sep L).length := by
  rcases Nat.lt_or_ge k L.length with h | h
  · have : ∀ d, k + d ≤ L.length → (glue sep (L.take k)).length ≤ (glue sep (L.take (k + d))).length := by
      intro d
      induction d with
      | zero => intro _; exact Nat.le_refl _
      | succ d ih =>
        intro hd
        refine Nat.le_trans (ih (by omega)) ?_
        rw [show k + (d + 1) = (k + d) + 1 from by omega]
        rcases Nat.eq_zero_or_pos (k + d) with h0 | h0
        · rw [h0]; simp [glue]
        · rw [glue_step sep L (k + d) (by omega) h0]; simp
    have := this (L.length - k) (by omega)
    rwa [show k + (L.length - k) = L.length from by omega, List.take_length] at this
  · rw [List.take_of_length_le h]; exact Nat.le_refl _

set_option maxHeartbeats 1600000 in
theorem glue_c (v : Value) (L : List (List UInt8)) (s : ByteArray) (w : World) (h1 : RStrs w v L) (hbd : (glue (us s) L).length ≤ 140737488355328) :
    Calls Try.prog 12 #[v, .string s] w fun e w' => e = .returned (.string (bs (glue (us s) L))) ∧ Below w.heap.size w w' := by
  obtain ⟨ao, cap, rfl, hm1, c1⟩ := h1.form
  have C1 := Lib.hid c1
  have HBD := Lib.hid hbd
  clear c1 h1 hbd
  unfold maxLen at hm1
  go_enter Try.func12, Try.ntmps12
  go_wp2
  go_loopw [5, 6] (fun v i wr => ∃ k : Nat, k ≤ L.length ∧ i = .int .i64 k ∧ Byt wr w.heap.size 5 v (glue (us s) (L.take k)) ∧ Below w.heap.size w wr) (fun _ i _ => L.length - (intOf i).toNat)
  case atStart => exact ⟨0, Nat.zero_le _, rfl, Byt.nil _ _ _, Below.refl _ _⟩
  case round =>
    obtain ⟨k, hk, rfl, hown, hB⟩ := hrel
    by_cases hlt : k < L.length
    · obtain ⟨b, off, rfl, hb1, hc1⟩ := C1.out (by omega)
      have x1 : wr.cell? ⟨b, off + k, none⟩ = some (.string (bs L[k])) := by
        rw [hB.cell (p := ⟨b, off + k, none⟩) hb1]; exact hc1 k hlt
      clear hc1
      have hle := Lib.hid (Nat.le_trans (glue_le (us s) L (k + 1)) HBD.out)
      by_cases h0 : 0 < k
      · have hg := Lib.hid (glue_step (us s) L k hlt h0)
        go_wp2_with (first | (at_builtin; refine wpList_appStr (us s) rfl rfl rfl Try.underlying25 Try.underlying9 infoB rfl rfl hown hB (Nat.le_refl _) ?_ ?_; (focus (have := hle.out; rw [hg.out, List.length_append, List.length_append] at this; omega)); intro v1 w1 ho1 hb1; have x1' := (hb1.cell (p := ⟨b, off + k, none⟩) (by assumption)).trans ((hB.cell (p := ⟨b, off + k, none⟩) (by assumption)).symm.trans x1)) | (at_builtin; refine wpList_appStr L[k] (us_bs _) rfl rfl Try.underlying25 Try.underlying9 infoB rfl rfl ho1 hb1 (Nat.le_refl _) ?_ ?_; (focus (have := hle.out; rw [hg.out, List.length_append] at this; omega)); intro v2 w2 ho2 hb2))
        go_roundw
        case rel => exact ⟨k + 1, by omega, by go_num, ho2.cast hg.out.symm, hb2⟩
        case measure => simp [intOf]; omega
      · obtain rfl : k = 0 := by omega
        rw [Nat.add_zero] at x1
        have hg := Lib.hid (glue_first (us s) L hlt)
        go_wp2_with (at_builtin; refine wpList_appStr L[0] (us_bs _) rfl rfl Try.underlying25 Try.underlying9 infoB rfl rfl hown hB (Nat.le_refl _) ?_ ?_; (focus (have := hle.out; rw [hg.out] at this; simpa [glue] using this)); intro v2 w2 ho2 hb2)
        go_roundw
        case rel => exact ⟨1, by omega, rfl, ho2.cast (by rw [hg.out]; rfl), hb2⟩
        case measure => simp [intOf]; omega
    · have hg := Lib.hid (show L.take k = L from List.take_of_length_le (by omega))
      go_wp2_with (refine wpList_str rfl rfl Try.underlying25 Try.underlying5 Try.underlying9 rfl hown ?_)
      go_ret
      exact ⟨ret_bs (by rw [us_bs]; first | rfl | rw [hg.out]), hB⟩

end Go.Proofs.Ytbkeommlolcaiaa
