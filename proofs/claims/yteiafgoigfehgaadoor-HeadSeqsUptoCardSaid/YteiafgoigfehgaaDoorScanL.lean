/-
  Digits, of the program and of the reference.
-/
import Derived.Test.YteiafgoigfehgaaDoorScanK
namespace Go.Proofs.YteiafgoigfehgaaDoor
open Go.RowKit

theorem digF_more : ∀ (f n : Nat), n < 10 ^ f → 0 < f → digF (f + 1) n = digF f n
  | 0, _, _, h => absurd h (by decide)
  | f + 1, n, hn, _ => by
    by_cases h : n < 10
    · simp only [digF, if_pos h]
    · have hf : 0 < f := by
        rcases Nat.eq_zero_or_pos f with h0 | h0
        · subst h0; simp at hn; omega
        · exact h0
      have hd : n / 10 < 10 ^ f := Nat.div_lt_of_lt_mul (by rw [Nat.mul_comm]; exact hn)
      rw [digF, if_neg h, digF_more f (n / 10) hd hf, digF, if_neg h]
theorem digits_small (n : Nat) (h : n < 10) : digits n = [dig n] := by
  unfold digits; rw [if_neg (by omega), Int.toNat_natCast]; simp only [digF, if_pos h]
theorem digits_step (n : Nat) (h : 10 ≤ n) (hn : n < 10000000000000000000) : digits n = digits ((n / 10 : Nat) : Int) ++ [dig (n % 10)] := by
  unfold digits; rw [if_neg (by omega), if_neg (by omega), Int.toNat_natCast, Int.toNat_natCast]
  rw [show digF 20 n = digF 19 (n / 10) ++ [dig (n % 10)] from by rw [digF, if_neg (by omega)]]
  rw [digF_more 19 (n / 10) (by omega) (by decide)]
theorem digits_neg (n : Int) (h : n < 0) : digits n = [] := by unfold digits; rw [if_pos h]

theorem digF_len : ∀ (f n : Nat), (digF f n).length ≤ f
  | 0, _ => Nat.le_refl _
  | f + 1, n => by
    unfold digF
    split
    · simp
    · have := digF_len f (n / 10); simp; exact this
theorem digits_len (n : Int) : (digits n).length ≤ 20 := by
  unfold digits; split
  · simp
  · exact digF_len _ _

theorem ten_at (k : Nat) (h : k < 10) : us (ByteArray.extract ⟨#[48, 49, 50, 51, 52, 53, 54, 55, 56, 57]⟩ k (k + 1)) = [dig k] := by
  have := (by decide : ∀ k : Fin 10, us (ByteArray.extract ⟨#[48, 49, 50, 51, 52, 53, 54, 55, 56, 57]⟩ k.val (k.val + 1)) = [dig k.val])
  exact this ⟨k, h⟩

theorem run_slice_at {P : Program} {ty : TypeId} (hty : P.underlying ty = some .string) (s : ByteArray) (a b : Nat) (h : a ≤ b) (hb : b ≤ s.size) {A B : Int} (hA : A = (a : Int)) (hB : B = (b : Int)) (w : World) :
    (Instr.sliceAt ty (.string s) (some (.int .i64 A)) (some (.int .i64 B)) none).run P w = .ok (.string (s.extract a b)) w := by
  subst hA hB
  simp [Instr.sliceAt, Instr.slice, Instr.sliceBounds, Instr.sliceBound, run_underlying hty, asIntOf, h, hb, Sem.run_bind, Result.andThen]

set_option maxHeartbeats 800000 in
theorem digitsR_n (f : Nat) : ∀ (n : Int) (w : World), 0 ≤ n → n < f → n ≤ 9223372036854775807 →
    Calls Tryd.prog 50 #[.int .i64 n] w fun e w' => e = .returned (.string (bs (digits n))) ∧ Drn w w' := by
  induction f with
  | zero => intro n w h; omega
  | succ f ih =>
    intro n w h0 hf hn
    obtain ⟨k, rfl⟩ : ∃ k : Nat, n = (k : Int) := ⟨n.toNat, by omega⟩
    by_cases h : k < 10
    · have HS := Lib.hid (digits_small k h)
      have HT := Lib.hid (ten_at k h)
      go_enter Tryd.func50, Tryd.ntmps50
      go_wp2_with fail
      go_ret
      exact ⟨ret_bs (by rw [HS.out]; exact HT.out), Drn.refl _⟩
    · have HS := Lib.hid (digits_step k (by omega) (by omega))
      have HT := Lib.hid (ten_at (k % 10) (by omega))
      have h' : 10 ≤ k := by omega
      have e1 : (k : Int) / 10 = ((k / 10 : Nat) : Int) := by omega
      have IH := Lib.hid (fun wx => ih ((k : Int) / 10) wx (by omega) (by omega) (by omega))
      rw [← e1] at HS
      clear h ih e1
      have k1 : (0 : Int) ≤ (k : Int) % 10 := by omega
      have k2 : (k : Int) % 10 ≤ (k : Int) % 10 + 1 := by omega
      have k3 : (k : Int) % 10 + 1 ≤ 10 := by omega
      have k4 : ((k : Int) % 10).toNat = k % 10 := by omega
      have k5 : ((k : Int) % 10 + 1).toNat = k % 10 + 1 := by omega
      have k6 : (0 : Int) ≤ (k : Int) % 10 + 1 := by omega
      have hl : (digits ((k : Int) / 10)).length ≤ 20 := digits_len _
      have hse : ((⟨#[48, 49, 50, 51, 52, 53, 54, 55, 56, 57]⟩ : ByteArray).extract (k % 10) (k % 10 + 1)).size ≤ 1 := by
        rw [← length_us, HT.out]; exact Nat.le_refl _
      have k7 : IntKind.i64.wrap ((k : Int) % 10 + 1) = (k : Int) % 10 + 1 := IntWalk.i64_in _ (by omega)
      go_enter Tryd.func50, Tryd.ntmps50
      go_wp2_with fail
      go_quiet ((go_at_call 50; exact Calls.quiet_of (IH.out _)))
      go_wp2
      go_ret
      exact ⟨ret_bs (by rw [HS.out, us_append, us_bs, HT.out]), _, rfl⟩

theorem digitsR_c (n : Int) (h0 : -9223372036854775808 ≤ n) (h1 : n ≤ 9223372036854775807) (w : World) :
    Calls Tryd.prog 50 #[.int .i64 n] w fun e w' => e = .returned (.string (bs (digits n))) ∧ Drn w w' := by
  by_cases h : n < 0
  · have HN := Lib.hid (digits_neg n h)
    go_enter Tryd.func50, Tryd.ntmps50
    go_wp2
    go_ret
    exact ⟨by rw [HN.out]; rfl, Drn.refl _⟩
  · exact digitsR_n (n.toNat + 1) n w (by omega) (by omega) h1

theorem dig_toNat (n : Nat) (h : n < 10) : (dig n).toNat = 48 + n := by
  have := (by decide : ∀ n : Fin 10, (dig n.val).toNat = 48 + n.val)
  exact this ⟨n, h⟩
theorem digF_small (p m : Nat) (h : m < 10) (hp : 1 ≤ p) : digF p m = [dig m] := by
  obtain ⟨q, rfl⟩ : ∃ q, p = q + 1 := ⟨p - 1, by omega⟩
  simp only [digF, if_pos h]
theorem digF_big (p m : Nat) (h : 10 ≤ m) (hp : 1 ≤ p) : digF p m = digF (p - 1) (m / 10) ++ [dig (m % 10)] := by
  obtain ⟨q, rfl⟩ : ∃ q, p = q + 1 := ⟨p - 1, by omega⟩
  rw [digF, if_neg (by omega)]; rfl
theorem pow_big (p m : Nat) (h : 10 ≤ m) (hm : m < 10 ^ p) : 2 ≤ p ∧ m / 10 < 10 ^ (p - 1) := by
  match p, hm with
  | 0, hm => simp at hm; omega
  | 1, hm => simp at hm; omega
  | q + 2, hm => exact ⟨by omega, Nat.div_lt_of_lt_mul (by rw [Nat.mul_comm]; exact hm)⟩

/-- an array of twenty bytes of the call's own: from p on it holds ds -/
def arrAt (w : World) (e : TypeId) (g p : Nat) (ds : List UInt8) : Prop :=
  ∃ cur : Array Value, w.heap[g]? = some (.cells cur e (0, 0)) ∧ cur.size = 20 ∧ p ≤ 20 ∧ ds.length = 20 - p ∧ cur.toList.drop p = ds.map bv
theorem arrAt.cell {w : World} {e : TypeId} {g p : Nat} {ds : List UInt8} (h : arrAt w e g p ds) (j : Nat) (hj : j < ds.length) : w.cell? ⟨g, p + j, none⟩ = some (bv ds[j]) := by
  obtain ⟨cur, hg, h1, h2, h3, h4⟩ := h
  have e1 : cur[p + j]? = some (bv ds[j]) := by
    rw [← Array.getElem?_toList, ← List.getElem?_drop, h4]; simp [hj]
  simp [World.cell?, hg, e1]
theorem arrAt.some {w : World} {e : TypeId} {g p : Nat} {ds : List UInt8} (h : arrAt w e g p ds) (j : Nat) (hj : j < 20) : (∃ v, w.cell? ⟨g, j, none⟩ = some v) ∧ w.frozen? ⟨g, j, none⟩ = false := by
  obtain ⟨cur, hg, h1, h2, h3, h4⟩ := h
  refine ⟨⟨cur[j]'(by omega), by simp [World.cell?, hg, h1, hj]⟩, by simp [World.frozen?, hg]⟩
theorem arrAt.set {w : World} {e : TypeId} {g p : Nat} {ds : List UInt8} (h : arrAt w e g p ds) (hp : 1 ≤ p) (c : UInt8) : arrAt (w.setCell ⟨g, p - 1, none⟩ (bv c)) e g (p - 1) (c :: ds) := by
  obtain ⟨cur, hg, h1, h2, h3, h4⟩ := h
  refine ⟨cur.setIfInBounds (p - 1) (bv c), ?_, by simp [h1], by omega, by simp; omega, ?_⟩
  · simp only [World.setCell, Array.getElem?_modify, hg]; simp
  · have hl : p - 1 < cur.toList.length := by rw [Array.length_toList]; omega
    rw [Array.toList_setIfInBounds, List.drop_set, if_neg (Nat.lt_irrefl _), Nat.sub_self, List.drop_eq_getElem_cons hl, List.set_cons_zero, show p - 1 + 1 = p from by omega, h4]
    rfl

theorem run_slice_arr {P : Program} {t e : TypeId} {z : Value} {b : Nat} (ht : P.underlying t = some (.array 20 e)) (hi : infoIs P e z 1 b) (g p : Nat) (hp : p < 20) (w : World) :
    (Instr.sliceAt t (.pointer (some ⟨g, 0, none⟩)) (some (.int .i64 (p : Int))) none none).run P w = .ok (.slice (some ⟨g, p, none⟩) (20 - p) (20 - p)) w := by
  obtain ⟨i, hi0, hi1, hi2, hi3⟩ := info_parts hi
  have h1 : ¬ (20 = p) := by omega
  have h2 : (p : Int) ≤ 20 := by omega
  have h3 : (⟨g, 0, none⟩ : Addr).add p = ⟨g, p, none⟩ := by unfold Addr.add; split <;> simp_all
  simp [Instr.sliceAt, Instr.sureAddr, Instr.sliceBounds, Instr.sliceBound, run_underlying ht, asIntOf, sizeOf, typeInfo, hi0, hi2, Sem.run_bind, Result.andThen]
  rw [if_pos (by omega)]
  simp only [if_neg h1, h3]

set_option maxHeartbeats 1600000 in
theorem digits_c (n : Int) (h0 : -9223372036854775808 ≤ n) (h1 : n ≤ 9223372036854775807) (w : World) :
    Calls Tryd.prog 17 #[.int .i64 n] w fun e w' => e = .returned (.string (bs (digits n))) ∧ Below w.heap.size w w' := by
  by_cases h : n < 0
  · have HN := Lib.hid (digits_neg n h)
    go_enter Tryd.func17, Tryd.ntmps17
    go_wp2
    go_ret
    exact ⟨by rw [HN.out]; rfl, Below.refl _ _⟩
  · obtain ⟨k, rfl⟩ : ∃ k : Nat, n = (k : Int) := ⟨n.toNat, by omega⟩
    have hk : k ≤ 9223372036854775807 := by omega
    clear h h0 h1
    go_enter Tryd.func17, Tryd.ntmps17
    go_wp2
    go_loopw [0, 4, 5] (fun v i b wr => ∃ (m p : Nat) (ds : List UInt8) (ok : Bool), v = .int .i64 m ∧ i = .int .i64 p ∧ b = .bool ok ∧ m ≤ k ∧ p ≤ 20 ∧ arrAt wr 72 w.heap.size p ds ∧ (ok = true → digF p m ++ ds = digits k ∧ m < 10 ^ p ∧ 1 ≤ p) ∧ (ok = false → ds = digits k ∧ p < 20) ∧ Below w.heap.size w wr) (fun _ i b _ => 2 * (intOf i).toNat + (if b matches .bool true then 1 else 0))
    case atStart =>
      refine ⟨k, 20, [], true, rfl, rfl, rfl, Nat.le_refl _, Nat.le_refl _, ⟨_, heap_alloc_new w _, rfl, Nat.le_refl _, rfl, rfl⟩, fun _ => ⟨?_, by omega, by omega⟩, (fun h => by cases h), (Below.refl _ _).alloc (Nat.le_refl _) _⟩
      unfold digits; rw [if_neg (by omega), List.append_nil, Int.toNat_natCast]
    case round =>
      obtain ⟨m, p, ds, ok, rfl, rfl, rfl, hmk, hp, ha, ht, hf, hB⟩ := hrel
      cases ok with
      | true =>
        obtain ⟨hd, hm, hp1⟩ := ht rfl
        have HD := Lib.hid hd
        have HM := Lib.hid hm
        obtain ⟨⟨x, hx⟩, hfr⟩ := ha.some (p - 1) (by omega)
        have HA := Lib.hid (ha.set hp1 (dig (m % 10)))
        have hdg := Lib.hid (dig_toNat (m % 10) (by omega))
        clear hd hm ht hf ha
        have hv : bv (dig (m % 10)) = Value.int .u8 (48 + (m : Int) % 10) := by unfold bv; rw [hdg.out]; simp
        have HV := Lib.hid hv
        clear hv
        by_cases hs : m < 10
        · have HE := Lib.hid (show dig m :: ds = digits k by rw [← HD.out, digF_small p m hs hp1]; rfl)
          have HMOD := Lib.hid (show m % 10 = m from Nat.mod_eq_of_lt hs)
          have q1 : decide ((0 : Int) < (m : Int) / 10) = false := by simp; omega
          go_wp2
          go_roundw
          case rel => exact ⟨m / 10, p - 1, _, false, by simp, by simp; omega, rfl, by omega, by omega, HV.out ▸ HA.out, (fun h => by cases h), fun _ => ⟨by rw [← HE.out, HMOD.out], by omega⟩, hB.setCell (Nat.le_refl _) _⟩
          case measure => simp [intOf]; omega
        · have hb := pow_big p m (by omega) HM.out
          have HP := Lib.hid hb.2
          have hp2 := hb.1
          have HE := Lib.hid (show digF (p - 1) (m / 10) ++ (dig (m % 10) :: ds) = digits k by rw [← HD.out, digF_big p m (by omega) hp1]; simp)
          have q1 : decide ((0 : Int) < (m : Int) / 10) = true := by simp; omega
          clear hb
          go_wp2
          go_roundw
          case rel => exact ⟨m / 10, p - 1, _, true, by simp, by simp; omega, rfl, by omega, by omega, HV.out ▸ HA.out, fun _ => ⟨HE.out, HP.out, by omega⟩, (fun h => by cases h), hB.setCell (Nat.le_refl _) _⟩
          case measure => simp [intOf]; omega
      | false =>
        obtain ⟨hd, hp2⟩ := hf rfl
        have HA := Lib.hid ha
        have hl : ds.length = 20 - p := by obtain ⟨_, _, _, _, h, _⟩ := ha; exact h
        subst hd
        clear ht hf ha
        have HL := Lib.hid hl
        clear hl
        have hsl := fun wx => run_slice_arr (P := Tryd.prog) Tryd.underlying72 infoB w.heap.size p hp2 wx
        go_wp2_with (refine wpList_strAt (l := digits k) rfl rfl Tryd.underlying73 Tryd.underlying5 Tryd.underlying9 rfl HL.out ?_ ?_; (focus (intro j hj; exact HA.out.cell j hj)))
        go_ret
        exact ⟨rfl, hB⟩

end Go.Proofs.YteiafgoigfehgaaDoor
