/-
  Lists of texts held against each other, and glued; digits.
  Digits, of the program and of the reference.
  rosterref01.Parts.
  Plain laws of layer 1, no program in sight: what is quoted is unquoted, what is escaped is unescaped, a number's digits are its, parts with the sign between are the text.
-/
import Derived.Test.YtbljmjbialinkaaDoorScR
import Derived.Test.YtbljmjbialinkaaDoorBase
namespace Go.Proofs.YtbljmjbialinkaaDoor

section
open Go.RowKit

theorem RStrs.form {w : World} {v : Value} {L : List (List UInt8)} (h : RStrs w v L) : ∃ ao cap, v = .slice ao L.length cap ∧ L.length ≤ maxLen ∧
    (0 < L.length → ∃ b off, ao = some ⟨b, off, none⟩ ∧ b < w.heap.size ∧ ∀ j (hj : j < L.length), w.cell? ⟨b, off + j, none⟩ = some (.string (bs L[j]))) := by
  rcases h.cases with ⟨⟨ao, cap, rfl⟩, rfl⟩ | ⟨b, off, cap, rfl, h2, h2', h3, h4⟩
  · exact ⟨ao, cap, rfl, Nat.zero_le _, fun h => by simp at h⟩
  · exact ⟨some ⟨b, off, none⟩, cap, rfl, Nat.le_trans h2 h2', fun _ => ⟨b, off, rfl, h3, h4⟩⟩
theorem lists_drop (L M : List (List UInt8)) (k : Nat) (h : k < L.length) (h' : k < M.length) :
    (L.drop k == M.drop k) = ((L[k] == M[k]) && (L.drop (k + 1) == M.drop (k + 1))) := by
  rw [List.drop_eq_getElem_cons h, List.drop_eq_getElem_cons h']; rfl

set_option maxHeartbeats 800000 in
theorem texts_c (v1 v2 : Value) (L M : List (List UInt8)) (w : World) (h1 : RStrs w v1 L) (h2 : RStrs w v2 M) :
    Calls Tryd.prog 15 #[v1, v2] w fun e w' => e = .returned (.bool (L == M)) ∧ Drn w w' := by
  obtain ⟨ao, cap, rfl, hm1, c1⟩ := h1.form
  obtain ⟨bo, cap', rfl, hm2, c2⟩ := h2.form
  have C1 := Lib.hid c1
  have C2 := Lib.hid c2
  clear c1 c2 h1 h2
  unfold maxLen at hm1 hm2
  by_cases hne : L.length = M.length
  · have hle1 : L.length ≤ M.length := by omega
    have hle2 : M.length ≤ L.length := by omega
    have hn : ((L.length : Int) != (M.length : Int)) = false := by simp [hne]
    have HE := Lib.hid hne
    clear hne
    go_enter Tryd.func15, Tryd.ntmps15
    go_wp2
    go_loopw [5] (fun i wr => ∃ k : Nat, k ≤ L.length ∧ i = .int .i64 k ∧ Drn w wr ∧ (L.drop k == M.drop k) = (L == M)) (fun i _ => L.length - (intOf i).toNat)
    case atStart => exact ⟨0, Nat.zero_le _, rfl, Drn.refl _, rfl⟩
    case round =>
      obtain ⟨k, hk, rfl, hD, hb⟩ := hrel
      have HB := Lib.hid hb; clear hb
      by_cases hlt : k < L.length
      · have hlt' : k < M.length := by omega
        obtain ⟨b, off, rfl, hb1, hc1⟩ := C1.out (by omega)
        obtain ⟨b', off', rfl, hb2, hc2⟩ := C2.out (by omega)
        have hd := Lib.hid (lists_drop L M k hlt hlt')
        have x1 : wr.cell? ⟨b, off + k, none⟩ = some (.string (bs L[k])) := by
          obtain ⟨n, rfl⟩ := hD; exact hc1 k hlt
        have x2 : wr.cell? ⟨b', off' + k, none⟩ = some (.string (bs M[k])) := by
          obtain ⟨n, rfl⟩ := hD; exact hc2 k hlt'
        have k0 : (0 : Int) ≤ (k : Int) := by omega
        have k1 : (k : Int) < (L.length : Int) := by omega
        have k2 : (k : Int) < (M.length : Int) := by omega
        clear hc1 hc2
        cases hq : (L[k] == M[k]) with
        | true =>
          have HQ := Lib.hid hq
          go_wp2
          go_quiet (fail)
          go_wp2
          go_roundw
          case rel => exact ⟨k + 1, by omega, by go_num, hD.step _, by rw [← HB.out, hd.out, HQ.out]; rfl⟩
          case measure => simp [intOf]; omega
        | false =>
          have HQ := Lib.hid hq
          go_wp2
          go_quiet (fail)
          go_wp2
          go_ret
          exact ⟨ret_bool (by rw [← HB.out, hd.out, HQ.out]; rfl), hD.step _⟩
      · go_wp2
        go_ret
        refine ⟨ret_bool ?_, hD⟩
        rw [← HB.out, List.drop_eq_nil_iff.2 (by omega), List.drop_eq_nil_iff.2 (by omega)]; rfl
  · have hn : ((L.length : Int) != (M.length : Int)) = true := by simp; omega
    have HN := Lib.hid (show (L == M) = false by
      rw [beq_eq_false_iff_ne]; intro e; exact hne (congrArg List.length e))
    clear hne
    go_enter Tryd.func15, Tryd.ntmps15
    go_wp2
    go_ret
    exact ⟨ret_bool HN.out.symm, Drn.refl _⟩

theorem strCells_us (s : ByteArray) : Lib.strCells s = (us s).map bv := by
  simp [Lib.strCells, us, bv]
/-- append of a string to a byte buffer -/
theorem wpList_appStr {P : Program} {ops : Array Oper} {rest : List Oper} {o : Oper} {a : Act} {Q : Exit → Act → World → Prop} {wE w : World} {base : Nat} {e t u : TypeId} {v : Value} {l : List UInt8} {s x : Operand} {S : ByteArray} (m : List UInt8) (hS : us S = m)
    (hgd : o.guard = none) (ho : o.op = .call { callee := .builtin .append, args := #[s, x], argTypes := #[t, u] })
    (ht : P.underlying t = some (.slice e)) (hu : P.underlying u = some .string) (hi : infoIs P e (.int .u8 0) 1 1)
    (hx : a.eval x = .string S) (hs : a.eval s = v) (hown : Byt w base e v l) (hB : Below base wE w) (hbase : base ≤ wE.heap.size)
    (hbd : l.length + m.length ≤ 140737488355328)
    (h : ∀ v' w', Byt w' base e v' (l ++ m) → Below base wE w' → wpList P ops Q rest (a.put o.dst v') w') :
    wpList P ops Q (o :: rest) a w := by
  subst hS
  obtain ⟨i, hi0, hi1, hi2, hi3⟩ := info_parts hi
  have hz := hB.size
  rw [length_us] at hbd
  refine Lib.wpList_append_own_string _ hgd s x t u ho base e i ht hu hi0 hi1 hi2 hi3 v l.length (l.map bv) hs hown S hx (by simp only [maxLen]; omega) hbd (by omega) ?_
  intro v' w' h1 hg _
  refine h v' w' ?_ (hB.grown hg (by omega) fun k hk => ((World.ownsRow.lt hown) k hk).1)
  unfold Byt
  rw [strCells_us] at h1
  simpa [length_us] using h1

theorem glue_snoc (sep : List UInt8) (L : List (List UInt8)) (x : List UInt8) (h : L ≠ []) : glue sep (L ++ [x]) = glue sep L ++ (sep ++ x) := by
  induction L with
  | nil => exact absurd rfl h
  | cons y r ih =>
    cases r with
    | nil => simp [glue]
    | cons z r' =>
      have := ih (by simp)
      simp only [List.cons_append] at this ⊢
      rw [glue, this, glue]
      simp
theorem take_snoc (L : List (List UInt8)) (k : Nat) (h : k < L.length) : L.take (k + 1) = L.take k ++ [L[k]] := List.take_succ_eq_append_getElem h
theorem glue_step (sep : List UInt8) (L : List (List UInt8)) (k : Nat) (h : k < L.length) (h0 : 0 < k) : glue sep (L.take (k + 1)) = (glue sep (L.take k) ++ sep) ++ L[k] := by
  rw [take_snoc L k h, glue_snoc sep _ _ (by intro e; have := congrArg List.length e; rw [List.length_take, List.length_nil] at this; omega)]
  simp
theorem glue_first (sep : List UInt8) (L : List (List UInt8)) (h : 0 < L.length) : glue sep (L.take 1) = L[0] := by
  rw [take_snoc L 0 h]; rfl
theorem glue_le (sep : List UInt8) (L : List (List UInt8)) (k : Nat) : (glue sep (L.take k)).length ≤ (glue sep L).length := by
  rcases Nat.lt_or_ge k L.length with h | h
  · have : ∀ d, k + d ≤ L.length → (glue sep (L.take k)).length ≤ (glue sep (L.take (k + d))).length := by
      intro d
      induction d with
      | zero => intro _; exact Nat.le_refl _
      | succ d ih =>
        intro hd
        refine Nat.le_trans (ih (by omega)) ?_
        rw [show k + (d + 1) = (k + d) + 1 from by omega]
        rcases Nat.eq_zero_or_pos (k + d) with h0 | h0
        · rw [h0]; simp [glue]
        · rw [glue_step sep L (k + d) (by omega) h0]; simp
    have := this (L.length - k) (by omega)
    rwa [show k + (L.length - k) = L.length from by omega, List.take_length] at this
  · rw [List.take_of_length_le h]; exact Nat.le_refl _

end

section
open Go.RowKit

theorem digF_more : ∀ (f n : Nat), n < 10 ^ f → 0 < f → digF (f + 1) n = digF f n
  | 0, _, _, h => absurd h (by decide)
  | f + 1, n, hn, _ => by
    by_cases h : n < 10
    · simp only [digF, if_pos h]
    · have hf : 0 < f := by
        rcases Nat.eq_zero_or_pos f with h0 | h0
        · subst h0; simp at hn; omega
        · exact h0
      have hd : n / 10 < 10 ^ f := Nat.div_lt_of_lt_mul (by rw [Nat.mul_comm]; exact hn)
      rw [digF, if_neg h, digF_more f (n / 10) hd hf, digF, if_neg h]
theorem digits_small (n : Nat) (h : n < 10) : digits n = [dig n] := by
  unfold digits; rw [if_neg (by omega), Int.toNat_natCast]; simp only [digF, if_pos h]
theorem digits_step (n : Nat) (h : 10 ≤ n) (hn : n < 10000000000000000000) : digits n = digits ((n / 10 : Nat) : Int) ++ [dig (n % 10)] := by
  unfold digits; rw [if_neg (by omega), if_neg (by omega), Int.toNat_natCast, Int.toNat_natCast]
  rw [show digF 20 n = digF 19 (n / 10) ++ [dig (n % 10)] from by rw [digF, if_neg (by omega)]]
  rw [digF_more 19 (n / 10) (by omega) (by decide)]
theorem digits_neg (n : Int) (h : n < 0) : digits n = [] := by unfold digits; rw [if_pos h]

theorem digF_len : ∀ (f n : Nat), (digF f n).length ≤ f
  | 0, _ => Nat.le_refl _
  | f + 1, n => by
    unfold digF
    split
    · simp
    · have := digF_len f (n / 10); simp; exact this
theorem digits_len (n : Int) : (digits n).length ≤ 20 := by
  unfold digits; split
  · simp
  · exact digF_len _ _

theorem ten_at (k : Nat) (h : k < 10) : us (ByteArray.extract ⟨#[48, 49, 50, 51, 52, 53, 54, 55, 56, 57]⟩ k (k + 1)) = [dig k] := by
  have := (by decide : ∀ k : Fin 10, us (ByteArray.extract ⟨#[48, 49, 50, 51, 52, 53, 54, 55, 56, 57]⟩ k.val (k.val + 1)) = [dig k.val])
  exact this ⟨k, h⟩

theorem run_slice_at {P : Program} {ty : TypeId} (hty : P.underlying ty = some .string) (s : ByteArray) (a b : Nat) (h : a ≤ b) (hb : b ≤ s.size) {A B : Int} (hA : A = (a : Int)) (hB : B = (b : Int)) (w : World) :
    (Instr.sliceAt ty (.string s) (some (.int .i64 A)) (some (.int .i64 B)) none).run P w = .ok (.string (s.extract a b)) w := by
  subst hA hB
  simp [Instr.sliceAt, Instr.slice, Instr.sliceBounds, Instr.sliceBound, run_underlying hty, asIntOf, h, hb, Sem.run_bind, Result.andThen]

theorem dig_toNat (n : Nat) (h : n < 10) : (dig n).toNat = 48 + n := by
  have := (by decide : ∀ n : Fin 10, (dig n.val).toNat = 48 + n.val)
  exact this ⟨n, h⟩
theorem digF_small (p m : Nat) (h : m < 10) (hp : 1 ≤ p) : digF p m = [dig m] := by
  obtain ⟨q, rfl⟩ : ∃ q, p = q + 1 := ⟨p - 1, by omega⟩
  simp only [digF, if_pos h]
theorem digF_big (p m : Nat) (h : 10 ≤ m) (hp : 1 ≤ p) : digF p m = digF (p - 1) (m / 10) ++ [dig (m % 10)] := by
  obtain ⟨q, rfl⟩ : ∃ q, p = q + 1 := ⟨p - 1, by omega⟩
  rw [digF, if_neg (by omega)]; rfl
theorem pow_big (p m : Nat) (h : 10 ≤ m) (hm : m < 10 ^ p) : 2 ≤ p ∧ m / 10 < 10 ^ (p - 1) := by
  match p, hm with
  | 0, hm => simp at hm; omega
  | 1, hm => simp at hm; omega
  | q + 2, hm => exact ⟨by omega, Nat.div_lt_of_lt_mul (by rw [Nat.mul_comm]; exact hm)⟩

/-- an array of twenty bytes of the call's own: from p on it holds ds -/
def arrAt (w : World) (e : TypeId) (g p : Nat) (ds : List UInt8) : Prop :=
  ∃ cur : Array Value, w.heap[g]? = some (.cells cur e (0, 0)) ∧ cur.size = 20 ∧ p ≤ 20 ∧ ds.length = 20 - p ∧ cur.toList.drop p = ds.map bv
theorem arrAt.cell {w : World} {e : TypeId} {g p : Nat} {ds : List UInt8} (h : arrAt w e g p ds) (j : Nat) (hj : j < ds.length) : w.cell? ⟨g, p + j, none⟩ = some (bv ds[j]) := by
  obtain ⟨cur, hg, h1, h2, h3, h4⟩ := h
  have e1 : cur[p + j]? = some (bv ds[j]) := by
    rw [← Array.getElem?_toList, ← List.getElem?_drop, h4]; simp [hj]
  simp [World.cell?, hg, e1]
theorem arrAt.some {w : World} {e : TypeId} {g p : Nat} {ds : List UInt8} (h : arrAt w e g p ds) (j : Nat) (hj : j < 20) : (∃ v, w.cell? ⟨g, j, none⟩ = some v) ∧ w.frozen? ⟨g, j, none⟩ = false := by
  obtain ⟨cur, hg, h1, h2, h3, h4⟩ := h
  refine ⟨⟨cur[j]'(by omega), by simp [World.cell?, hg, h1, hj]⟩, by simp [World.frozen?, hg]⟩
theorem arrAt.set {w : World} {e : TypeId} {g p : Nat} {ds : List UInt8} (h : arrAt w e g p ds) (hp : 1 ≤ p) (c : UInt8) : arrAt (w.setCell ⟨g, p - 1, none⟩ (bv c)) e g (p - 1) (c :: ds) := by
  obtain ⟨cur, hg, h1, h2, h3, h4⟩ := h
  refine ⟨cur.setIfInBounds (p - 1) (bv c), ?_, by simp [h1], by omega, by simp; omega, ?_⟩
  · simp only [World.setCell, Array.getElem?_modify, hg]; simp
  · have hl : p - 1 < cur.toList.length := by rw [Array.length_toList]; omega
    rw [Array.toList_setIfInBounds, List.drop_set, if_neg (Nat.lt_irrefl _), Nat.sub_self, List.drop_eq_getElem_cons hl, List.set_cons_zero, show p - 1 + 1 = p from by omega, h4]
    rfl

theorem run_slice_arr {P : Program} {t e : TypeId} {z : Value} {b : Nat} (ht : P.underlying t = some (.array 20 e)) (hi : infoIs P e z 1 b) (g p : Nat) (hp : p < 20) (w : World) :
    (Instr.sliceAt t (.pointer (some ⟨g, 0, none⟩)) (some (.int .i64 (p : Int))) none none).run P w = .ok (.slice (some ⟨g, p, none⟩) (20 - p) (20 - p)) w := by
  obtain ⟨i, hi0, hi1, hi2, hi3⟩ := info_parts hi
  have h1 : ¬ (20 = p) := by omega
  have h2 : (p : Int) ≤ 20 := by omega
  have h3 : (⟨g, 0, none⟩ : Addr).add p = ⟨g, p, none⟩ := by unfold Addr.add; split <;> simp_all
  simp [Instr.sliceAt, Instr.sureAddr, Instr.sliceBounds, Instr.sliceBound, run_underlying ht, asIntOf, sizeOf, typeInfo, hi0, hi2, Sem.run_bind, Result.andThen]
  rw [if_pos (by omega)]
  simp only [if_neg h1, h3]

set_option maxHeartbeats 1600000 in
theorem digits_c (n : Int) (h0 : -9223372036854775808 ≤ n) (h1 : n ≤ 9223372036854775807) (w : World) :
    Calls Tryd.prog 24 #[.int .i64 n] w fun e w' => e = .returned (.string (bs (digits n))) ∧ Below w.heap.size w w' := by
  by_cases h : n < 0
  · have HN := Lib.hid (digits_neg n h)
    go_enter Tryd.func24, Tryd.ntmps24
    go_wp2
    go_ret
    exact ⟨by rw [HN.out]; rfl, Below.refl _ _⟩
  · obtain ⟨k, rfl⟩ : ∃ k : Nat, n = (k : Int) := ⟨n.toNat, by omega⟩
    have hk : k ≤ 9223372036854775807 := by omega
    clear h h0 h1
    go_enter Tryd.func24, Tryd.ntmps24
    go_wp2
    go_loopw [0, 4, 5] (fun v i b wr => ∃ (m p : Nat) (ds : List UInt8) (ok : Bool), v = .int .i64 m ∧ i = .int .i64 p ∧ b = .bool ok ∧ m ≤ k ∧ p ≤ 20 ∧ arrAt wr 81 w.heap.size p ds ∧ (ok = true → digF p m ++ ds = digits k ∧ m < 10 ^ p ∧ 1 ≤ p) ∧ (ok = false → ds = digits k ∧ p < 20) ∧ Below w.heap.size w wr) (fun _ i b _ => 2 * (intOf i).toNat + (if b matches .bool true then 1 else 0))
    case atStart =>
      refine ⟨k, 20, [], true, rfl, rfl, rfl, Nat.le_refl _, Nat.le_refl _, ⟨_, heap_alloc_new w _, rfl, Nat.le_refl _, rfl, rfl⟩, fun _ => ⟨?_, by omega, by omega⟩, (fun h => by cases h), (Below.refl _ _).alloc (Nat.le_refl _) _⟩
      unfold digits; rw [if_neg (by omega), List.append_nil, Int.toNat_natCast]
    case round =>
      obtain ⟨m, p, ds, ok, rfl, rfl, rfl, hmk, hp, ha, ht, hf, hB⟩ := hrel
      cases ok with
      | true =>
        obtain ⟨hd, hm, hp1⟩ := ht rfl
        have HD := Lib.hid hd
        have HM := Lib.hid hm
        obtain ⟨⟨x, hx⟩, hfr⟩ := ha.some (p - 1) (by omega)
        have HA := Lib.hid (ha.set hp1 (dig (m % 10)))
        have hdg := Lib.hid (dig_toNat (m % 10) (by omega))
        clear hd hm ht hf ha
        have hv : bv (dig (m % 10)) = Value.int .u8 (48 + (m : Int) % 10) := by unfold bv; rw [hdg.out]; simp
        have HV := Lib.hid hv
        clear hv
        by_cases hs : m < 10
        · have HE := Lib.hid (show dig m :: ds = digits k by rw [← HD.out, digF_small p m hs hp1]; rfl)
          have HMOD := Lib.hid (show m % 10 = m from Nat.mod_eq_of_lt hs)
          have q1 : decide ((0 : Int) < (m : Int) / 10) = false := by simp; omega
          go_wp2
          go_roundw
          case rel => exact ⟨m / 10, p - 1, _, false, by simp, by simp; omega, rfl, by omega, by omega, HV.out ▸ HA.out, (fun h => by cases h), fun _ => ⟨by rw [← HE.out, HMOD.out], by omega⟩, hB.setCell (Nat.le_refl _) _⟩
          case measure => simp [intOf]; omega
        · have hb := pow_big p m (by omega) HM.out
          have HP := Lib.hid hb.2
          have hp2 := hb.1
          have HE := Lib.hid (show digF (p - 1) (m / 10) ++ (dig (m % 10) :: ds) = digits k by rw [← HD.out, digF_big p m (by omega) hp1]; simp)
          have q1 : decide ((0 : Int) < (m : Int) / 10) = true := by simp; omega
          clear hb
          go_wp2
          go_roundw
          case rel => exact ⟨m / 10, p - 1, _, true, by simp, by simp; omega, rfl, by omega, by omega, HV.out ▸ HA.out, fun _ => ⟨HE.out, HP.out, by omega⟩, (fun h => by cases h), hB.setCell (Nat.le_refl _) _⟩
          case measure => simp [intOf]; omega
      | false =>
        obtain ⟨hd, hp2⟩ := hf rfl
        have HA := Lib.hid ha
        have hl : ds.length = 20 - p := by obtain ⟨_, _, _, _, h, _⟩ := ha; exact h
        subst hd
        clear ht hf ha
        have HL := Lib.hid hl
        clear hl
        have hsl := fun wx => run_slice_arr (P := Tryd.prog) Tryd.underlying81 infoB w.heap.size p hp2 wx
        go_wp2_with (refine wpList_strAt (l := digits k) rfl rfl Tryd.underlying82 Tryd.underlying5 Tryd.underlying9 rfl HL.out ?_ ?_; (focus (intro j hj; exact HA.out.cell j hj)))
        go_ret
        exact ⟨rfl, hB⟩
end

section
open Go.RowKit

theorem pg_esc2 (sep : UInt8) (a : Bool) (cur : List UInt8) (s : ByteArray) (k : Nat) (h : k + 1 < s.size) (hc : s[k].toNat = 92) :
    partsGo sep true a cur ((us s).drop k) = partsGo sep true a ((cur ++ [s[k]]) ++ [s[k + 1]]) ((us s).drop (k + 2)) := by
  rw [drop_us s k (by omega), drop_us s (k + 1) h]; simp [partsGo, hc]
theorem pg_esc1 (sep : UInt8) (a : Bool) (cur : List UInt8) (s : ByteArray) (k : Nat) (h : k < s.size) (h1 : ¬ k + 1 < s.size) (hc : s[k].toNat = 92) :
    partsGo sep true a cur ((us s).drop k) = partsGo sep true a (cur ++ [s[k]]) ((us s).drop (k + 1)) := by
  rw [drop_us s k h, drop_us_end s (k + 1) (by omega)]; simp [partsGo, hc]

end

section
theorem unq_qbyte (c : UInt8) : broken c = false → (bare c = true ∧ c.toNat ≠ 92) ∨ (bare c = false ∧ c.toNat ≤ 127) :=
  all_bytes (fun c => broken c = false → (bare c = true ∧ c.toNat ≠ 92) ∨ (bare c = false ∧ c.toNat ≤ 127)) (by decide +kernel) c
theorem unqGo_bare (c : UInt8) (r : List UInt8) (h : bare c = true) (h' : c.toNat ≠ 92) : unqGo (c :: r) = (unqGo r).map (c :: ·) := by
  cases r with
  | nil => simp [unqGo, h]
  | cons d r => rw [unqGo, if_neg h', if_pos h]
theorem unqGo_esc (d : UInt8) (r : List UInt8) (h : broken d = false) (h' : d.toNat ≤ 127) : unqGo (92 :: d :: r) = (unqGo r).map (d :: ·) := by
  rw [unqGo, if_pos (by decide), if_neg]
  rw [h]; simp; omega
theorem unqGo_quote : ∀ l : List UInt8, l.any broken = false → unqGo (l.flatMap qbyte) = some l
  | [], _ => rfl
  | c :: r, h => by
    have h1 : broken c = false ∧ r.any broken = false := by simpa using h
    have ih := unqGo_quote r h1.2
    rw [List.flatMap_cons]
    rcases unq_qbyte c h1.1 with ⟨hb, h92⟩ | ⟨hb, h127⟩
    · rw [qbyte, if_pos hb, List.singleton_append, unqGo_bare c _ hb h92, ih]; rfl
    · rw [qbyte, if_neg (by rw [hb]; decide)]
      show unqGo (92 :: c :: r.flatMap qbyte) = _
      rw [unqGo_esc c _ h1.1 h127, ih]; rfl
theorem unquote_quote (l : List UInt8) (h : (quote l).2 = 0) : unquote (quote l).1 = (l, 0) := by
  unfold quote at *
  cases hb : l.any broken with
  | true => rw [hb] at h; simp at h
  | false =>
    simp only [Bool.false_eq_true, if_false]
    unfold unquote
    rw [if_neg]
    · have e : ((34 :: (l.flatMap qbyte ++ [34])).drop 1).take ((34 :: (l.flatMap qbyte ++ [34])).length - 2) = l.flatMap qbyte := by
        simp
      rw [e, unqGo_quote l hb]; rfl
    · rintro (h | h | h)
      · simp at h; omega
      · exact h rfl
      · apply h
        rw [show (34 :: (l.flatMap qbyte ++ [34]) : List UInt8) = (34 :: l.flatMap qbyte) ++ [34] from rfl, List.getLast?_append]; rfl

theorem esc_hex (c : UInt8) : testc 4 (hexd (c.toNat / 16)) = true ∧ testc 4 (hexd (c.toNat % 16)) = true ∧ UInt8.ofNat (16 * worth (hexd (c.toNat / 16)) + worth (hexd (c.toNat % 16))) = c :=
  all_bytes (fun c => testc 4 (hexd (c.toNat / 16)) = true ∧ testc 4 (hexd (c.toNat % 16)) = true ∧ UInt8.ofNat (16 * worth (hexd (c.toNat / 16)) + worth (hexd (c.toNat % 16))) = c) (by decide +kernel) c
theorem unesc_cons_ne (c : UInt8) (r : List UInt8) (h : c.toNat ≠ 37) : unesc (c :: r) = (unesc r).map (c :: ·) := by
  match r with
  | [] => simp only [unesc, if_neg h]
  | [a] => rw [unesc.eq_def]; simp only [if_neg h]
  | a :: b :: r' => rw [unesc.eq_def]; simp only [if_neg h]
theorem unesc_escape (keep : List UInt8) : ∀ l : List UInt8, unesc (escape l keep) = some l
  | [] => rfl
  | c :: r => by
    have ih := unesc_escape keep r
    unfold escape at *
    rw [List.flatMap_cons]
    by_cases h : c.toNat ≠ 37 ∧ (testc 16 c = true ∨ hasb keep c = true)
    · rw [show ebyte keep c = [c] from if_pos h, List.singleton_append, unesc_cons_ne c _ h.1, ih]; rfl
    · obtain ⟨h1, h2, h3⟩ := esc_hex c
      rw [show ebyte keep c = [37, hexd (c.toNat / 16), hexd (c.toNat % 16)] from if_neg h]
      show unesc (37 :: hexd (c.toNat / 16) :: hexd (c.toNat % 16) :: r.flatMap (ebyte keep)) = _
      rw [unesc, if_pos (by decide), h1, h2]
      simp only [Bool.and_true, if_true]
      rw [ih, h3]; rfl
theorem unescape_escape (l keep : List UInt8) : unescape (escape l keep) = (l, 0) := by
  unfold unescape; rw [unesc_escape]; rfl

theorem numGo_append (most : Int) : ∀ (xs ys : List UInt8) (a : Int), (numGo most xs a).2 = 0 → numGo most (xs ++ ys) a = numGo most ys (numGo most xs a).1
  | [], _, _, _ => rfl
  | c :: r, ys, a, h => by
    rw [List.cons_append, numGo]
    rw [numGo] at h
    split at h
    · simp at h
    · rename_i hc
      rw [if_neg hc, numGo_append most r ys _ h, numGo, if_neg hc]
theorem dig_val (n : Nat) (h : n < 10) : ((dig n).toNat : Int) - 48 = n := by
  have := (by decide : ∀ n : Fin 10, ((dig n.val).toNat : Int) - 48 = n.val)
  exact this ⟨n, h⟩
theorem dig_digit (n : Nat) (h : n < 10) : testc 1 (dig n) = true := by
  have := (by decide : ∀ n : Fin 10, testc 1 (dig n.val) = true)
  exact this ⟨n, h⟩
theorem numGo_dig (most : Int) : ∀ (f m : Nat), m < 10 ^ f → 0 < f → (m : Int) ≤ most → numGo most (digF f m) 0 = ((m : Int), 0)
  | 0, _, _, h, _ => absurd h (by decide)
  | f + 1, m, hm, _, hmost => by
    by_cases h : m < 10
    · rw [digF, if_pos h, numGo, dig_val m h, if_neg (by omega), numGo]
      simp
    · have hf : 0 < f := by
        rcases Nat.eq_zero_or_pos f with h0 | h0
        · subst h0; simp at hm; omega
        · exact h0
      have hd : m / 10 < 10 ^ f := Nat.div_lt_of_lt_mul (by rw [Nat.mul_comm]; exact hm)
      have ih := numGo_dig most f (m / 10) hd hf (by omega)
      rw [digF, if_neg h, numGo_append most _ _ _ (by rw [ih]), ih, numGo, dig_val (m % 10) (by omega), if_neg (by omega), numGo]
      congr 1; omega
theorem digF_ne : ∀ (f n : Nat), 0 < f → digF f n ≠ []
  | 0, _, h => absurd h (by decide)
  | f + 1, n, _ => by
    unfold digF; split
    · simp
    · simp
theorem digF_all : ∀ (f n : Nat), allc 1 (digF f n) = true
  | 0, _ => rfl
  | f + 1, n => by
    unfold digF; split
    · rename_i h; simp [allc, dig_digit n h]
    · have := digF_all f (n / 10)
      unfold allc at *
      rw [List.all_append, this]; simp [dig_digit (n % 10) (by omega)]
theorem number_digits (n : Int) (h0 : 0 ≤ n) (h1 : n ≤ 9223372036854775807) : number (digits n) n = (n, 0) := by
  unfold digits
  rw [if_neg (by omega)]
  unfold number
  rw [if_neg]
  · have := numGo_dig n 20 n.toNat (by omega) (by decide) (by omega)
    rw [this]; congr 1; omega
  · rintro (h | h)
    · exact digF_ne 20 _ (by decide) h
    · rw [digF_all] at h; cases h

theorem pgo_esc (sep : UInt8) (a : Bool) (cur : List UInt8) (c : UInt8) (r : List UInt8) (hc : c.toNat = 92) :
    partsGo sep true a cur (c :: r) = match r with | [] => [cur ++ [c]] | d :: r' => partsGo sep true a (cur ++ [c, d]) r' := by
  rw [partsGo.eq_def]; simp only [hc, and_self, if_true]
  cases r <;> rfl
theorem pgo_cons (sep : UInt8) (q a : Bool) (cur : List UInt8) (c : UInt8) (r : List UInt8) (h : ¬ (q = true ∧ c.toNat = 92)) :
    partsGo sep q a cur (c :: r) = if c.toNat = 34 then partsGo sep (!q) a (cur ++ [c]) r
    else if q = true then partsGo sep q a (cur ++ [c]) r
    else if c.toNat = 60 then partsGo sep q true (cur ++ [c]) r
    else if c.toNat = 62 then partsGo sep q false (cur ++ [c]) r
    else if c.toNat = sep.toNat ∧ a = false then cur :: partsGo sep q a [] r
    else partsGo sep q a (cur ++ [c]) r := by
  rw [partsGo.eq_def]; simp only [if_neg h]
theorem partsGo_ne' (sep : UInt8) : ∀ (n : Nat) (l : List UInt8) (q a : Bool) (cur : List UInt8), l.length ≤ n → partsGo sep q a cur l ≠ []
  | _, [], q, a, cur, _ => by simp [partsGo]
  | 0, c :: r, q, a, cur, h => by simp at h
  | n + 1, c :: r, q, a, cur, h => by
    have hr : r.length ≤ n := by simpa using h
    by_cases hA : q = true ∧ c.toNat = 92
    · obtain ⟨rfl, h92⟩ := hA
      rw [pgo_esc sep a cur c r h92]
      cases r with
      | nil => simp
      | cons d r' => exact partsGo_ne' sep n r' _ _ _ (by simp at hr; omega)
    · rw [pgo_cons sep q a cur c r hA]
      repeat' split
      all_goals first | exact partsGo_ne' sep n r _ _ _ hr | simp
theorem partsGo_ne (sep : UInt8) (l : List UInt8) (q a : Bool) (cur : List UInt8) : partsGo sep q a cur l ≠ [] := partsGo_ne' sep l.length l q a cur (Nat.le_refl _)
theorem glue_cons (sep x : List UInt8) (l : List (List UInt8)) (h : l ≠ []) : glue sep (x :: l) = x ++ (sep ++ glue sep l) := by
  cases l with
  | nil => exact absurd rfl h
  | cons y r => rfl
theorem glue_parts' (sep : UInt8) : ∀ (n : Nat) (l : List UInt8) (q a : Bool) (cur : List UInt8), l.length ≤ n → glue [sep] (partsGo sep q a cur l) = cur ++ l
  | _, [], q, a, cur, _ => by simp [partsGo, glue]
  | 0, c :: r, q, a, cur, h => by simp at h
  | n + 1, c :: r, q, a, cur, h => by
    have hr : r.length ≤ n := by simpa using h
    by_cases hA : q = true ∧ c.toNat = 92
    · obtain ⟨rfl, h92⟩ := hA
      rw [pgo_esc sep a cur c r h92]
      cases r with
      | nil => simp [glue]
      | cons d r' => show glue [sep] (partsGo sep true a (cur ++ [c, d]) r') = _; rw [glue_parts' sep n r' _ _ _ (by simp at hr; omega)]; simp
    · rw [pgo_cons sep q a cur c r hA]
      by_cases h1 : c.toNat = 34
      · rw [if_pos h1, glue_parts' sep n r _ _ _ hr]; simp
      by_cases h2 : q = true
      · rw [if_neg h1, if_pos h2, glue_parts' sep n r _ _ _ hr]; simp
      by_cases h3 : c.toNat = 60
      · rw [if_neg h1, if_neg h2, if_pos h3, glue_parts' sep n r _ _ _ hr]; simp
      by_cases h4 : c.toNat = 62
      · rw [if_neg h1, if_neg h2, if_neg h3, if_pos h4, glue_parts' sep n r _ _ _ hr]; simp
      by_cases h5 : c.toNat = sep.toNat ∧ a = false
      · rw [if_neg h1, if_neg h2, if_neg h3, if_neg h4, if_pos h5, glue_cons _ _ _ (partsGo_ne sep _ _ _ _), glue_parts' sep n r _ _ _ hr]
        have : c = sep := UInt8.toNat_inj.1 h5.1
        rw [this]; simp
      · rw [if_neg h1, if_neg h2, if_neg h3, if_neg h4, if_neg h5, glue_parts' sep n r _ _ _ hr]; simp
theorem glue_parts (sep : UInt8) (l : List UInt8) : glue [sep] (parts l sep) = l := glue_parts' sep l.length l false false [] (Nat.le_refl _)

theorem partsGo_plain (sep : UInt8) (c : UInt8) (r cur : List UInt8) (h1 : c.toNat ≠ 34) (h2 : c.toNat ≠ 60) (h3 : c.toNat ≠ 62) :
    partsGo sep false false cur (c :: r) = if c.toNat = sep.toNat then cur :: partsGo sep false false [] r else partsGo sep false false (cur ++ [c]) r := by
  rw [partsGo.eq_def]; simp [h1, h2, h3]
/-- no quotes, no angles -/
def plainText (l : List UInt8) : Bool := l.all fun c => c.toNat != 34 && c.toNat != 60 && c.toNat != 62
theorem parts_pieces (sep : UInt8) (b : List UInt8) (hs : sep.toNat ≠ 34 ∧ sep.toNat ≠ 60 ∧ sep.toNat ≠ 62) : ∀ (a cur : List UInt8), plainText a = true →
    partsGo sep false false cur (a ++ sep :: b) = partsGo sep false false cur a ++ partsGo sep false false [] b
  | [], cur, _ => by
    rw [List.nil_append, partsGo_plain sep sep b cur hs.1 hs.2.1 hs.2.2, if_pos rfl]
    rfl
  | c :: r, cur, h => by
    have h' : (c.toNat ≠ 34 ∧ c.toNat ≠ 60 ∧ c.toNat ≠ 62) ∧ plainText r = true := by
      unfold plainText at h; rw [List.all_cons] at h; simp at h; exact ⟨⟨h.1.1.1, h.1.1.2, h.1.2⟩, by unfold plainText; simpa using h.2⟩
    obtain ⟨⟨p1, p2, p3⟩, hr⟩ := h'
    rw [List.cons_append, partsGo_plain sep c _ cur p1 p2 p3, partsGo_plain sep c r cur p1 p2 p3]
    split
    · rw [parts_pieces sep b hs r [] hr]; rfl
    · rw [parts_pieces sep b hs r _ hr]

theorem trim_le (l : List UInt8) : (trim l).length ≤ l.length := by
  unfold trim trimR trimL
  rw [List.length_reverse]
  refine Nat.le_trans (List.dropWhile_sublist _).length_le ?_
  rw [List.length_reverse]
  exact (List.dropWhile_sublist _).length_le
end

end Go.Proofs.YtbljmjbialinkaaDoor
